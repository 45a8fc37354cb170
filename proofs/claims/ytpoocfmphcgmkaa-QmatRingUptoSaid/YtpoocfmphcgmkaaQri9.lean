/-
  The pure machine, part 12: code, loops, functions.
-/
import Derived.Scope
import Derived.Test.YtpoocfmphcgmkaaQri8
set_option linter.unusedVariables false
set_option linter.unusedSimpArgs false
set_option linter.unusedSimpArgs false
set_option linter.unusedVariables false
namespace Go.Pm
open Go.RowKit

/-! ### leaving a state for a smaller one -/
mutual
def refsLt (n : Nat) : PV → Prop
  | .sr id _ => id < n
  | .pr id _ _ _ => id < n
  | .st id _ => id < n
  | .tv id _ _ _ => id < n
  | .po id _ _ => id < n
  | .sw id _ => id < n
  | .pw id _ _ _ => id < n
  | .lt cs => refsLts n cs
  | .lp cs => refsLts n cs
  | .agg cs => refsLts n cs
  | .tup cs => refsLts n cs
  | .fn _ cs => refsLts n cs
  | .any => True
  | .d _ => True
  | .nl => True
  | .yd => True
  | .bw _ => True
def refsLts (n : Nat) : List PV → Prop
  | [] => True
  | p :: l => refsLt n p ∧ refsLts n l
end
theorem refsLts_get {n : Nat} : ∀ {l : List PV}, refsLts n l → ∀ (j : Nat) (p : PV), l[j]? = some p → refsLt n p
  | [], _, j, p, h => by cases h
  | q :: l, h, j, p, hj => by
    cases j with
    | zero => cases hj; exact h.1
    | succ j => exact refsLts_get h.2 j p hj
def slotsLt (n : Nat) : Slots → Prop
  | [] => True
  | (_, p) :: l => refsLt n p ∧ slotsLt n l
def heapLt (n : Nat) : Heap → Prop
  | [] => True
  | (id, .box cs) :: l => id < n ∧ refsLts n cs ∧ heapLt n l
  | (id, _) :: l => id < n ∧ heapLt n l
def subT (t : Slots) : Slots → Prop
  | [] => True
  | (u, p) :: l => get t u = p ∧ subT t l
def subH (h : Heap) : Heap → Prop
  | [] => True
  | (id, ob) :: l => hget h id = some ob ∧ subH h l
/-- τ says no more than σ -/
def Sub (τ σ : St) : Prop := τ.m = σ.m ∧ subT σ.t τ.t ∧ subH σ.h τ.h ∧ slotsLt τ.n τ.t ∧ heapLt τ.n τ.h

theorem get_sub {t : Slots} : ∀ {s : Slots}, subT t s → ∀ u, get s u = .any ∨ get s u = get t u
  | [], _, u => .inl rfl
  | (v, p) :: s, h, u => by
    simp only [get]
    split
    · rename_i e; subst e; exact .inr h.1.symm
    · exact get_sub h.2 u
theorem get_lt {n : Nat} : ∀ {s : Slots}, slotsLt n s → ∀ u, refsLt n (get s u)
  | [], _, u => trivial
  | (v, p) :: s, h, u => by
    simp only [get]
    split
    · exact h.1
    · exact get_lt h.2 u
theorem hget_sub {h : Heap} : ∀ {s : Heap}, subH h s → ∀ id ob, hget s id = some ob → hget h id = some ob
  | [], _, id, ob, e => by cases e
  | (v, p) :: s, hh, id, ob, e => by
    simp only [hget] at e
    split at e
    · rename_i e2; subst e2; rw [← e]; exact hh.1
    · exact hget_sub hh.2 id ob e
theorem hget_lt {n : Nat} : ∀ {s : Heap}, heapLt n s → ∀ id ob, hget s id = some ob → id < n ∧ (∀ cs, ob = .box cs → refsLts n cs)
  | [], _, id, ob, e => by cases e
  | (v, o) :: s, hh, id, ob, e => by
    simp only [hget] at e
    have h1 : v < n ∧ (∀ cs, o = .box cs → refsLts n cs) ∧ heapLt n s := by
      cases o with
      | box cs => exact ⟨hh.1, fun cs' h => by cases h; exact hh.2.1, hh.2.2⟩
      | arr a => exact ⟨hh.1, fun cs' h => (by cases h), hh.2⟩
      | tab a => exact ⟨hh.1, fun cs' h => (by cases h), hh.2⟩
      | dead => exact ⟨hh.1, fun cs' h => (by cases h), hh.2⟩
    split at e
    · rename_i e2
      subst e2
      simp only [Option.some.injEq] at e
      subst e
      exact ⟨h1.1, h1.2.1⟩
    · exact hget_lt h1.2.2 id ob e

section
variable {P : Program} {E : Env} {loc : Locs} {kn : Nat → Prop} {w : World} {a : Act} {σ : St}

theorem PRep.sub {C C' : Cx} {hg hg' : Nat → Option Ob} (hC : C.le C') (hh : ∀ id ob, hg' id = some ob → hg id = some ob) {n : Nat} {p : PV} {v : Value} (h : PRep C hg loc kn p v) (hl : refsLt n p) : PRep C' hg' loc (fun id => kn id ∧ id < n) p v := by
  induction h with
  | any v => exact .any v
  | d h => exact .d (h.le hC)
  | nl => exact .nl
  | yd h => exact .yd (hC.y ▸ h)
  | bw f hcell hrep =>
    refine .bw f (fun j p h1 => ?_) (fun j p h1 => (hrep j p h1).le hC)
    obtain ⟨a1, a2, a3⟩ := hcell j p h1
    exact ⟨hC.cell _ _ _ a1 a3, a2, hC.ow _ _ _ a1 a3⟩
  | sr hk ho hv h => exact .sr ⟨hk, by simpa [refsLt] using hl⟩ ho (fun a ha => hv a (hh _ _ ha)) (fun a ha => h a (hh _ _ ha))
  | pr hk ho hv hb ha => exact .pr ⟨hk, by simpa [refsLt] using hl⟩ ho (fun a h => hv a (hh _ _ h)) (fun cs h => hb cs (hh _ _ h)) (fun a h => ha a (hh _ _ h))
  | lt f hc hm hcell _ ih =>
    refine .lt f hc hm (fun j p h1 => ?_) (fun j p h1 => ih j p h1 (refsLts_get (by simpa [refsLt] using hl) j p h1))
    obtain ⟨a1, a2, a3, a4⟩ := hcell j p h1
    exact ⟨hC.cell _ _ _ a1 a3, a2, hC.ow _ _ _ a1 a3, hC.am _ _ _ a1 a3 a4⟩
  | lp f hcell _ ih =>
    refine .lp f (fun j p h1 => ?_) (fun j p h1 => ih j p h1 (refsLts_get (by simpa [refsLt] using hl) j p h1))
    obtain ⟨a1, a2, a3, a4⟩ := hcell j p h1
    exact ⟨hC.cell _ _ _ a1 a3, a2, hC.ow _ _ _ a1 a3, hC.am _ _ _ a1 a3 a4⟩
  | st hk ho hv h => exact .st ⟨hk, by simpa [refsLt] using hl⟩ ho (fun T hT => hv T (hh _ _ hT)) (fun T hT => h T (hh _ _ hT))
  | tv hk ho hv h => exact .tv ⟨hk, by simpa [refsLt] using hl⟩ ho (fun T hT => hv T (hh _ _ hT)) (fun T hT => h T (hh _ _ hT))
  | po hk ho hv h => exact .po ⟨hk, by simpa [refsLt] using hl⟩ ho (fun T hT => hv T (hh _ _ hT)) (fun T hT => h T (hh _ _ hT))
  | sw hk ho hv h => exact .sw ⟨hk, by simpa [refsLt] using hl⟩ ho (fun T hT => hv T (hh _ _ hT)) (fun T es hT => h T es (hh _ _ hT))
  | pw hk ho hv h => exact .pw ⟨hk, by simpa [refsLt] using hl⟩ ho (fun T hT => hv T (hh _ _ hT)) (fun T es hT => h T es (hh _ _ hT))
  | agg hln _ ih => exact .agg hln (fun j p v h1 h2 => ih j p v h1 h2 (refsLts_get (by simpa [refsLt] using hl) j p h1))
  | tup hln _ ih => exact .tup hln (fun j p v h1 h2 => ih j p v h1 h2 (refsLts_get (by simpa [refsLt] using hl) j p h1))
  | fn hln _ ih => exact .fn hln (fun j p v h1 h2 => ih j p v h1 h2 (refsLts_get (by simpa [refsLt] using hl) j p h1))

theorem Conc.sub {τ : St} (h : Conc E σ loc kn a w) (hs : Sub τ σ) : Conc E τ loc (fun id => kn id ∧ id < τ.n) a w := by
  obtain ⟨h1, h2, h3, h4, h5⟩ := hs
  have hh := fun id ob => hget_sub h3 id ob
  have hC : Cx.le (cxOf E (hget σ.h) loc w) (cxOf E (hget τ.h) loc w) := ⟨fun _ _ _ h _ => h, fun b o v _ g1 ⟨id, ob, g2, g3, g4⟩ => g1 ⟨id, ob, hh id ob g2, g3, g4⟩, fun _ _ _ _ _ h => h, rfl⟩
  refine ⟨⟨h.mc.ext, h.mc.amlt, fun id ob hi => ?_, fun id id' b g1 g2 => ?_, fun id b g1 => ?_, fun id b o g1 => ?_⟩, fun u => ?_, h.size.trans h1.symm, fun id hi => hi.2⟩
  · obtain ⟨g1, g2⟩ := h.mc.objs id ob (hh id ob hi)
    obtain ⟨g3, g4⟩ := hget_lt h5 id ob hi
    refine ⟨⟨g1, g3⟩, ?_⟩
    cases ob with
    | arr ar => exact ⟨g2.1, ArrAt.le hC (fun _ _ => rfl) g2.2⟩
    | tab T => exact TabAt.le hC (fun _ _ => rfl) g2
    | dead => exact g2
    | box cs =>
      have g2 : BoxAt _ _ _ _ cs (loc id) := g2
      show BoxAt _ _ _ _ cs (loc id)
      cases hl : loc id with
      | no => rw [hl] at g2; exact g2
      | tb lo rl => rw [hl] at g2; exact g2
      | pl b cap =>
        rw [hl] at g2
        obtain ⟨c, e, k1, k2, k3⟩ := g2
        refine ⟨c, e, k1, k2, fun j p hj => ?_⟩
        obtain ⟨u, k4, k5, k6⟩ := k3 j p hj
        exact ⟨u, k4, k5, k6.sub hC hh (refsLts_get (g4 cs rfl) j p hj)⟩
  · obtain ⟨x, hx⟩ := Option.ne_none_iff_exists'.1 g1
    obtain ⟨y, hy⟩ := Option.ne_none_iff_exists'.1 g2
    exact h.mc.sep id id' b (by simp [hh _ _ hx]) (by simp [hh _ _ hy])
  · obtain ⟨x, hx⟩ := Option.ne_none_iff_exists'.1 g1
    exact h.mc.fresh id b (by simp [hh _ _ hx])
  · obtain ⟨x, hx⟩ := Option.ne_none_iff_exists'.1 g1
    exact h.mc.amno id b o (by simp [hh _ _ hx])
  · rcases get_sub h2 u with e | e
    · rw [e]; exact .any _
    · have := get_lt h4 u
      rw [e] at this ⊢
      exact (h.slots u).sub hC hh this

/-- an abstract state, and how its frame came there -/
structure CI (E : Env) (Φ : Fr) (σ : St) (loc : Locs) (kn : Nat → Prop) (a : Act) (w : World) : Prop where
  c : Conc E σ loc kn a w
  i : In E Φ (hget σ.h) loc kn w
  le : Φ.n ≤ σ.n
  nod : DefsOk Φ.w.heap.size w a.defers
theorem CI.sub {Φ : Fr} {τ : St} (h : CI E Φ σ loc kn a w) (hs : Sub τ σ) (hn : Φ.n ≤ τ.n) : CI E Φ τ loc (fun id => kn id ∧ id < τ.n) a w :=
  ⟨h.c.sub hs, h.i.sub (fun id ob => hget_sub hs.2.2.1 id ob) hn, hn, h.nod⟩

/-! ### what may be said otherwise ahead of a loop -/
inductive Gh where
  | arr (u : Nat) (el : TypeId) (k : Nat)
  | tab (u : Nat) (el rel : TypeId) (k : Nat)
  | arrB (id j : Nat) (el : TypeId) (k : Nat)
  | tabB (id j : Nat) (el rel : TypeId) (k : Nat)
  | frz (id : Nat)
  | nilS (u : Nat)
  | nilB (id j : Nat)
def ghost (g : Gh) (σ : St) (K : St → Prop) : Prop := match g with
  | .arr u el k => Side (get σ.t u = .nl ∧ 0 < k) σ fun σ => K ⟨σ.m, (u, .sr σ.n 0) :: σ.t, (σ.n, .arr ⟨el, k, 0, false, []⟩) :: σ.h, σ.n + 1⟩
  | .tab u el rel k => Side (get σ.t u = .nl ∧ 0 < k) σ fun σ => K ⟨σ.m, (u, .st σ.n 0) :: σ.t, (σ.n, .tab ⟨el, rel, k, 0, false, [], []⟩) :: σ.h, σ.n + 1⟩
  | .arrB id j el k => Got (hget σ.h id) σ fun σ ob => match ob with
    | .box cs => Side (cs[j]? = some .nl ∧ 0 < k) σ fun σ => K ⟨σ.m, σ.t, (id, .box (cs.set j (.sr σ.n 0))) :: (σ.n, .arr ⟨el, k, 0, false, []⟩) :: σ.h, σ.n + 1⟩
    | _ => False
  | .tabB id j el rel k => Got (hget σ.h id) σ fun σ ob => match ob with
    | .box cs => Side (cs[j]? = some .nl ∧ 0 < k) σ fun σ => K ⟨σ.m, σ.t, (id, .box (cs.set j (.st σ.n 0))) :: (σ.n, .tab ⟨el, rel, k, 0, false, [], []⟩) :: σ.h, σ.n + 1⟩
    | _ => False
  | .frz id => K ⟨σ.m, σ.t, frz (hget σ.h) [id] ++ σ.h, σ.n⟩
  | .nilS u => Side (get σ.t u = .nl) σ fun σ => K ⟨σ.m, (u, .d (.sl [])) :: σ.t, σ.h, σ.n⟩
  | .nilB id j => Got (hget σ.h id) σ fun σ ob => match ob with
    | .box cs => Side (cs[j]? = some .nl) σ fun σ => K ⟨σ.m, σ.t, (id, .box (cs.set j (.d (.sl [])))) :: σ.h, σ.n⟩
    | _ => False
def ghosts : List Gh → St → (St → Prop) → Prop
  | [], σ, K => K σ
  | g :: gs, σ, K => ghost g σ fun σ => ghosts gs σ K

theorem Conc.tr0 {τ : St} {loc' : Locs} {kn' : Nat → Prop} (h : Conc E σ loc kn a w) (ht : Tr E (hget σ.h) loc kn w (hget τ.h) loc' kn' w) (hm : τ.m = σ.m) (hs : ∀ u, get τ.t u = get σ.t u ∨ PRep (cxOf E (hget τ.h) loc' w) (hget τ.h) loc' kn' (get τ.t u) (a.tmps.getD u undef)) (hk : ∀ id, kn' id → id < τ.n) : Conc E τ loc' kn' a w :=
  ⟨ht.mc, fun u => by
    rcases hs u with e | e
    · rw [e]; exact (h.slots u).le ht.cx ht.rf ht.kn
    · exact e, h.size.trans hm.symm, hk⟩
theorem CI.tr {Φ : Fr} {τ : St} {loc' : Locs} {kn' : Nat → Prop} (h : CI E Φ σ loc kn a w) (ht : Tr E (hget σ.h) loc kn w (hget τ.h) loc' kn' w) (hm : τ.m = σ.m) (hs : ∀ u, get τ.t u = get σ.t u ∨ PRep (cxOf E (hget τ.h) loc' w) (hget τ.h) loc' kn' (get τ.t u) (a.tmps.getD u undef)) (hk : ∀ id, kn' id → id < τ.n) (hn : σ.n ≤ τ.n) : CI E Φ τ loc' kn' a w :=
  ⟨h.c.tr0 ht hm hs hk, h.i.step h.c.mc ht, Nat.le_trans h.le hn, h.nod.tr h.c.mc ht⟩

theorem setBoxGhost {id b cap j : Nat} {cs : List PV} {p : PV} {hg : Nat → Option Ob} (h : MC E hg loc kn w) (hi : hg id = some (.box cs)) (hp : ∀ u, cs[j]? = some .nl → PRep (cxOf E hg loc w) hg loc kn .nl u → PRep (cxOf E hg loc w) hg loc kn p u) (hj : cs[j]? = some .nl) (hl : loc id = .pl b cap) :
    Tr E hg loc kn w (upd [(id, .box (cs.set j p))] hg) (locAdd loc id (.pl b cap)) (knAdd kn id) w := by
  obtain ⟨b', cap', c, e, hl', h1, h2, h3⟩ := h.box hi
  rw [hl] at hl'
  cases hl'
  refine Tr.one h id _ (.pl b cap) w (Nat.le_refl _) rfl rfl rfl (fun x hx => .inl ⟨by simp [hi], by rw [hl]; exact hx⟩) (fun x _ _ => rfl) (fun x o v _ hx _ hno => absurd ⟨id, _, hi, hx, trivial⟩ hno) (fun x _ _ => ⟨⟨cs, hi⟩, hl.symm⟩) (fun a ha _ => by cases ha) (fun T hT _ => by cases hT) (fun hC hR => ?_)
  refine ⟨c, e, h1, by simpa using h2, fun i q hq => ?_⟩
  by_cases hij : i = j
  · subst hij
    have hil : i < cs.length := (List.getElem?_eq_some_iff.1 hj).1
    rw [List.getElem?_set_self hil] at hq
    cases hq
    obtain ⟨u, g1, g2, g3⟩ := h3 i _ hj
    exact ⟨u, g1, g2, (hp u hj g3).le hC hR (fun _ h => .inl h)⟩
  · rw [List.getElem?_set_ne (Ne.symm hij)] at hq
    obtain ⟨u, g1, g2, g3⟩ := h3 i q hq
    exact ⟨u, g1, g2, g3.le hC hR (fun _ h => .inl h)⟩

theorem ghost_sound {Φ : Fr} {g : Gh} {K : St → Prop} (h : ghost g σ K) (hci : CI E Φ σ loc kn a w) : ∃ τ loc' kn', K τ ∧ CI E Φ τ loc' kn' a w := by
  have hc := hci.c
  have hnew : ¬ kn σ.n := fun hh => absurd (hc.known _ hh) (Nat.lt_irrefl _)
  have bound : ∀ x, knAdd kn σ.n x → x < σ.n + 1 := fun x hx => by
    rcases hx with hx | hx
    · have := hc.known x hx; omega
    · omega
  have newA : ∀ (el : TypeId) (k : Nat), 0 < k → Tr E (hget σ.h) loc kn w (upd [(σ.n, .arr ⟨el, k, 0, false, []⟩)] (hget σ.h)) (locAdd loc σ.n .no) (knAdd kn σ.n) w ∧ ∀ C u, PRep C (upd [(σ.n, .arr ⟨el, k, 0, false, []⟩)] (hget σ.h)) (locAdd loc σ.n .no) (knAdd kn σ.n) .nl u → PRep C (upd [(σ.n, .arr ⟨el, k, 0, false, []⟩)] (hget σ.h)) (locAdd loc σ.n .no) (knAdd kn σ.n) (.sr σ.n 0) u := fun el k hk => by
    refine ⟨Tr.newNil hc.mc hnew ⟨el, k, 0, false, []⟩ hk rfl, fun C u hu => ?_⟩
    cases hu
    refine .sr (.inr rfl) rfl (fun ar h' => Nat.zero_le _) (fun ar h' _ => ?_)
    rw [show locAdd loc σ.n .no σ.n = .no from if_pos rfl]
  have newT : ∀ (el rel : TypeId) (k : Nat), 0 < k → Tr E (hget σ.h) loc kn w (upd [(σ.n, .tab ⟨el, rel, k, 0, false, [], []⟩)] (hget σ.h)) (locAdd loc σ.n (.tb .no fun _ => .no)) (knAdd kn σ.n) w ∧ ∀ C u, PRep C (upd [(σ.n, .tab ⟨el, rel, k, 0, false, [], []⟩)] (hget σ.h)) (locAdd loc σ.n (.tb .no fun _ => .no)) (knAdd kn σ.n) .nl u → PRep C (upd [(σ.n, .tab ⟨el, rel, k, 0, false, [], []⟩)] (hget σ.h)) (locAdd loc σ.n (.tb .no fun _ => .no)) (knAdd kn σ.n) (.st σ.n 0) u := fun el rel k hk => by
    refine ⟨Tr.newTab hc.mc hnew ⟨el, rel, k, 0, false, [], []⟩ hk rfl rfl, fun C u hu => ?_⟩
    cases hu
    refine .st (.inr rfl) rfl (fun T h' => Nat.zero_le _) (fun T h' _ lo rl hl => ?_)
    rw [show locAdd loc σ.n (.tb .no fun _ => .no) σ.n = .tb .no fun _ => .no from if_pos rfl] at hl
    cases hl
    rfl
  cases g with
  | arr u el k =>
    obtain ⟨⟨h1, hk⟩, h⟩ := h
    obtain ⟨ht, hp⟩ := newA el k hk
    have hU : hget ((σ.n, .arr ⟨el, k, 0, false, []⟩) :: σ.h) = upd [(σ.n, .arr ⟨el, k, 0, false, []⟩)] (hget σ.h) := funext fun t => hget_append [_] σ.h t
    refine ⟨_, _, _, h, hci.tr (by rw [hU]; exact ht) rfl (fun v => ?_) bound (Nat.le_succ _)⟩
    simp only [get, hU]
    split
    · rename_i e
      subst e
      right
      have := (hc.slots u).le ht.cx ht.rf ht.kn
      rw [h1] at this
      exact hp _ _ this
    · exact .inl rfl
  | tab u el rel k =>
    obtain ⟨⟨h1, hk⟩, h⟩ := h
    obtain ⟨ht, hp⟩ := newT el rel k hk
    have hU : hget ((σ.n, .tab ⟨el, rel, k, 0, false, [], []⟩) :: σ.h) = upd [(σ.n, .tab ⟨el, rel, k, 0, false, [], []⟩)] (hget σ.h) := funext fun t => hget_append [_] σ.h t
    refine ⟨_, _, _, h, hci.tr (by rw [hU]; exact ht) rfl (fun v => ?_) bound (Nat.le_succ _)⟩
    simp only [get, hU]
    split
    · rename_i e
      subst e
      right
      have := (hc.slots u).le ht.cx ht.rf ht.kn
      rw [h1] at this
      exact hp _ _ this
    · exact .inl rfl
  | arrB id j el k =>
    unfold ghost at h
    dsimp only at h
    obtain ⟨ob, hob, h⟩ := got_spec h
    split at h
    · rename_i cs
      obtain ⟨⟨h1, hk⟩, h⟩ := h
      obtain ⟨ht, hp⟩ := newA el k hk
      have hid : ¬ σ.n = id := fun e => hnew (e ▸ (hc.mc.objs _ _ hob).1)
      have hob' : upd [(σ.n, .arr ⟨el, k, 0, false, []⟩)] (hget σ.h) id = some (.box cs) := by simp [upd, hid, hob]
      obtain ⟨b, cap, c, e, hl, _⟩ := ht.mc.box hob'
      have ht2 := ht.trans (setBoxGhost (j := j) (p := .sr σ.n 0) ht.mc hob' (fun u _ hu => hp _ u hu) h1 hl)
      rw [← upd_cons] at ht2
      have hU : hget ((id, .box (cs.set j (.sr σ.n 0))) :: (σ.n, .arr ⟨el, k, 0, false, []⟩) :: σ.h) = upd [(id, .box (cs.set j (.sr σ.n 0))), (σ.n, .arr ⟨el, k, 0, false, []⟩)] (hget σ.h) := funext fun t => hget_append [_, _] σ.h t
      refine ⟨_, _, _, h, hci.tr (by rw [hU]; exact ht2) rfl (fun v => .inl rfl) (fun x hx => ?_) (Nat.le_succ _)⟩
      rcases hx with hx | hx
      · exact bound x hx
      · subst hx; have := hc.known _ (hc.mc.objs _ _ hob).1; show _ < σ.n + 1; omega
    · exact h.elim
  | tabB id j el rel k =>
    unfold ghost at h
    dsimp only at h
    obtain ⟨ob, hob, h⟩ := got_spec h
    split at h
    · rename_i cs
      obtain ⟨⟨h1, hk⟩, h⟩ := h
      obtain ⟨ht, hp⟩ := newT el rel k hk
      have hid : ¬ σ.n = id := fun e => hnew (e ▸ (hc.mc.objs _ _ hob).1)
      have hob' : upd [(σ.n, .tab ⟨el, rel, k, 0, false, [], []⟩)] (hget σ.h) id = some (.box cs) := by simp [upd, hid, hob]
      obtain ⟨b, cap, c, e, hl, _⟩ := ht.mc.box hob'
      have ht2 := ht.trans (setBoxGhost (j := j) (p := .st σ.n 0) ht.mc hob' (fun u _ hu => hp _ u hu) h1 hl)
      rw [← upd_cons] at ht2
      have hU : hget ((id, .box (cs.set j (.st σ.n 0))) :: (σ.n, .tab ⟨el, rel, k, 0, false, [], []⟩) :: σ.h) = upd [(id, .box (cs.set j (.st σ.n 0))), (σ.n, .tab ⟨el, rel, k, 0, false, [], []⟩)] (hget σ.h) := funext fun t => hget_append [_, _] σ.h t
      refine ⟨_, _, _, h, hci.tr (by rw [hU]; exact ht2) rfl (fun v => .inl rfl) (fun x hx => ?_) (Nat.le_succ _)⟩
      rcases hx with hx | hx
      · exact bound x hx
      · subst hx; have := hc.known _ (hc.mc.objs _ _ hob).1; show _ < σ.n + 1; omega
    · exact h.elim
  | frz id =>
    obtain ⟨loc', kn', ht, hk⟩ := Tr.frz hc.mc [id]
    have hU : hget (frz (hget σ.h) [id] ++ σ.h) = upd (frz (hget σ.h) [id]) (hget σ.h) := funext fun t => hget_append _ σ.h t
    exact ⟨_, loc', kn', h, hci.tr (by rw [hU]; exact ht) rfl (fun v => .inl rfl) (fun x hx => hc.known x (hk x hx)) (Nat.le_refl _)⟩
  | nilS u =>
    obtain ⟨h1, h⟩ := h
    refine ⟨_, loc, kn, h, hci.tr (Tr.refl hc.mc) rfl (fun v => ?_) hc.known (Nat.le_refl _)⟩
    simp only [get]
    split
    · rename_i e
      subst e
      right
      have := hc.slots u
      rw [h1] at this
      generalize a.tmps.getD u undef = z at this ⊢
      cases this
      exact .d .nil
    · exact .inl rfl
  | nilB id j =>
    unfold ghost at h
    dsimp only at h
    obtain ⟨ob, hob, h⟩ := got_spec h
    split at h
    · rename_i cs
      obtain ⟨h1, h⟩ := h
      obtain ⟨b, cap, c, e, hl, _⟩ := hc.mc.box hob
      have ht2 := setBoxGhost (j := j) (p := .d (.sl [])) hc.mc hob (fun u _ hu => by cases hu; exact .d .nil) h1 hl
      have hU : hget ((id, .box (cs.set j (.d (.sl [])))) :: σ.h) = upd [(id, .box (cs.set j (.d (.sl []))))] (hget σ.h) := funext fun t => hget_append [_] σ.h t
      refine ⟨_, _, _, h, hci.tr (by rw [hU]; exact ht2) rfl (fun v => .inl rfl) (fun x hx => ?_) (Nat.le_refl _)⟩
      rcases hx with hx | hx
      · exact hc.known x hx
      · subst hx; exact hc.known _ (hc.mc.objs _ _ hob).1
    · exact h.elim
theorem ghosts_sound {Φ : Fr} {K : St → Prop} : ∀ {gs : List Gh} {σ : St} {loc : Locs} {kn : Nat → Prop}, ghosts gs σ K → CI E Φ σ loc kn a w → ∃ τ loc' kn', K τ ∧ CI E Φ τ loc' kn' a w
  | [], σ, loc, kn, h, hc => ⟨σ, loc, kn, h, hc⟩
  | g :: gs, σ, loc, kn, h, hc => by
    obtain ⟨τ, l, k, h1, h2⟩ := ghost_sound h hc
    exact ghosts_sound h1 h2

/-! ### code -/
def seqK (k : St → Prop) (K : Exit → St → Prop) : Exit → St → Prop
  | .normal, σ => k σ
  | e, σ => K e σ
def blockK (id : Nat) (K : Exit → St → Prop) : Exit → St → Prop
  | .exit i, σ => if i = id then K .normal σ else K (.exit i) σ
  | e, σ => K e σ
def loopK {α : Type} (inv : α → St) (φ : α → Prop) (m : α → Nat) (x : α) (K : Exit → St → Prop) : Exit → St → Prop
  | .normal, σ => ∃ y, φ y ∧ m y < m x ∧ Sub (inv y) σ
  | e, σ => K e σ
def CondS (c : PV) (σ : St) (k1 k2 : St → Prop) : Prop := match c with
  | .d (.v (.bool b)) => IfB b σ k1 k2
  | _ => False
def scopeK (K : Exit → St → Prop) : Exit → St → Prop
  | .goto _, _ => False
  | e, σ => K e σ
def vc (P : Program) (M : Md) : Code → (Exit → St → Prop) → St → Prop
  | .skip, K, σ => K .normal σ
  | .region _ ops true, K, σ => vcOps P noM ops ops.toList 0 [] (fun τ log => Side (raceOk ops log = true) (bump τ ops.size) (K .normal)) σ
  | .region _ ops false, K, σ => vcOps P M ops ops.toList 0 [] (fun τ _ => K .normal (bump τ ops.size)) σ
  | .seq x y, K, σ => vc P M x (seqK (vc P M y K) K) σ
  | .cond c x y, K, σ => CondS (ev σ.t c) σ (vc P M x K) (vc P M y K)
  | .block id b, K, σ => vc P M b (blockK id K) σ
  | .loop b, K, σ => ∃ (gs : List Gh) (α : Type) (inv : α → St) (φ : α → Prop) (m : α → Nat) (x0 : α), φ x0 ∧ (∀ x, φ x → σ.n ≤ (inv x).n) ∧ ghosts gs σ (Sub (inv x0)) ∧ ∀ x, φ x → vc P M b (loopK inv φ m x K) (inv x)
  | .exit id, K, σ => K (.exit id) σ
  | .scope b, K, σ => vc P M b (scopeK K) σ
  | .label _, K, σ => K .normal σ
  | .ret, K, σ => K .ret σ
  | .rangeFunc g ps a b, K, σ => M.R g ps a b K σ
  | _, _, _ => False

/-- a state reached by way of e -/
def Reach (E : Env) (Φ : Fr) (K : Exit → St → Prop) (e : Exit) (a : Act) (w : World) : Prop := ∃ σ loc kn, K e σ ∧ CI E Φ σ loc kn a w
/-- what is asked of ranges over functions -/
def ROk (P : Program) (E : Env) (Φ : Fr) (ro : Option Nat) (n : Nat) (R : Operand → Array Tmp → Code → Code → (Exit → St → Prop) → St → Prop) : Prop :=
  ∀ (g : Operand) (ps : Array Tmp) (as b : Code) (K : Exit → St → Prop) (σ : St) (loc : Locs) (kn : Nat → Prop) (a : Act) (w : World), R g ps as b K σ → CI E Φ σ loc kn a w → (Code.rangeFunc g ps as b).wpIn (FW ro) n P (Reach E Φ K) a w
theorem ROk.no {Φ : Fr} {ro : Option Nat} {n : Nat} : ROk P E Φ ro n noM.R := fun _ _ _ _ _ _ _ _ _ _ h => h.elim

variable {Φ : Fr} {ro : Option Nat} {n : Nat} {M : Md}
theorem draw_sound {ops : Array Oper} {id : Nat} {K : Exit → St → Prop} (hmo : P.follows .mixedOrders = true) (h : vcOps P noM ops ops.toList 0 [] (fun τ log => Side (raceOk ops log = true) (bump τ ops.size) (K .normal)) σ) (hci : CI E Φ σ loc kn a w) :
    (Code.region id ops true).wpIn (FW ro) n P (Reach E Φ K) a w := by
  obtain ⟨xs, hx, ⟨hrace, hk⟩, hent⟩ := chain_of ops.toList 0 [] σ h
  have hc := hci.c
  have htd := Tr.drew hc.mc
  have hf : ∀ k, isL (Array.replicate ops.size false) k = false := fun k => by
    simp only [isL, Array.getD_eq_getD_getElem?, Array.getElem?_replicate]
    split <;> rfl
  have hrun : runL (isL (Array.replicate ops.size false)) 0 ops.toList xs σ = σ := by
    have : ∀ (l : List Oper) (xs : List Ent) (k : Nat) (σ : St), runL (isL (Array.replicate ops.size false)) k l xs σ = σ := fun l => by
      induction l with
      | nil => intros; rfl
      | cons o l ih =>
        intro xs k σ
        cases xs with
        | nil => rfl
        | cons x xs => simp only [runL, hf, Bool.false_eq_true, if_false]; exact ih xs _ σ
    exact this _ _ _ _
  have hcnt : ∀ n, cnt (isL (Array.replicate ops.size false)) n = n := fun n => by
    induction n with
    | zero => rfl
    | succ n ih => simp [cnt, ih, hf]
  refine wpIn_region_any hmo (any_sound (E := E) (σ := σ) (xs := xs) (Φ := Φ) (by simpa using hx) hrace (by simp) (fun k o x ho hxk => ?_) (fun loc kn a w hcc hii hdd => ⟨_, loc, kn, hk, ⟨hcc, hii, ?_, hdd⟩⟩) ops.size _ loc kn a _ (by simp) (Nat.le_of_eq (hcnt _)) (fun j o _ hL => by rw [hf] at hL; cases hL) ?_ ?_ hc.size (hci.nod.tr hc.mc htd) (fun id hid => .inl (hc.known id hid)) ?_)
  · have := hent k o x (by simpa using ho) hxk
    rw [Nat.zero_add] at this
    exact this
  · rw [hrun]; exact htd.mc
  · rw [hrun]; exact slots_tr htd hc.slots
  · rw [hrun]; exact hci.i.step hc.mc htd
  · show Φ.n ≤ (runL (fun _ => true) 0 ops.toList xs σ).n + 4 * ops.size
    rw [(runL_t (fun _ => true) ops.toList xs 0 σ).2.2.2]
    have := hci.le
    omega

theorem region_sound (hY : YOk P E Φ ro n M.Y) {ops : Array Oper} {id : Nat} {K : Exit → St → Prop} (h : vcOps P M ops ops.toList 0 [] (fun τ _ => K .normal (bump τ ops.size)) σ) (hci : CI E Φ σ loc kn a w) :
    (Code.region id ops false).wpIn (FW ro) n P (Reach E Φ K) a w := by
  have hc := hci.c
  refine wpIn_region_list (ops_sound hY ops.toList 0 [] σ loc kn a w h hc.mc hc.slots hc.size hci.nod (by simpa using hc.known) hci.i hci.le ?_)
  intro τ log loc' kn' a' w' hk h1 h2 h3 h4 h5 h6 h7
  exact ⟨_, loc', kn', hk, ⟨⟨h1, h2, h3, fun id hi => by have := h5 id hi; simp only [Nat.zero_add, Array.length_toList] at this; exact this⟩, h6, Nat.le_trans h7 (Nat.le_add_right _ _), h4⟩⟩

theorem stepR_scope {b : Frame} {k : List Item} {cs : List Frame} {c : Code} : step P (lone (b.atR a (.code (.scope c) :: k)) cs w) = .next (lone (b.atR a (.code c :: .inScope c :: k)) cs w) :=
  step_lone_go (by simp [stepG, stepG.exec, Frame.atR])
theorem stepR_inScope {b : Frame} {k : List Item} {cs : List Frame} {c : Code} : step P (lone (b.atR a (.inScope c :: k)) cs w) = .next (lone (b.atR a k) cs w) :=
  step_lone_go (by simp [stepG, stepG.exec, Frame.atR])
theorem wpIn_scope_straight {F : Fence} {Q : Exit → Act → World → Prop} {c : Code} (h : c.wpIn F n P (Exit.noGoto Q) a w) : (Code.scope c).wpIn F n P Q a w := by
  intro b k cs hro hb hr
  obtain ⟨e, a₁, w₁, hq, harr⟩ := h b (.inScope c :: k) cs hro hb hr
  have h0 : (lone (b.atR a (.code (.scope c) :: k)) cs w).fenced P F := fenced_calm hb hr rfl
  cases e with
  | normal => exact ⟨.normal, a₁, w₁, hq, .head h0 stepR_scope (StepsIn.trans harr (.one (fenced_calm hb hr rfl) stepR_inScope))⟩
  | exit id => exact ⟨.exit id, a₁, w₁, hq, .of_steps (.one h0 stepR_scope) ⟨fun k' hk => harr.1 k' (by simp [exitTo, hk]), fun g1 g2 => harr.2 g1 (by simp [exitTo, g2])⟩⟩
  | goto l => exact hq.elim
  | ret => exact ⟨_, a₁, w₁, hq, .of_steps (.one h0 stepR_scope) harr⟩
  | panic ch => exact ⟨_, a₁, w₁, hq, .of_steps (.one h0 stepR_scope) harr⟩
  | outgrown => exact ⟨_, a₁, w₁, hq, .of_steps (.one h0 stepR_scope) harr⟩

theorem vc_sound (hmo : P.follows .mixedOrders = true) (hY : YOk P E Φ ro n M.Y) (hR : ROk P E Φ ro n M.R) : ∀ (c : Code) (K : Exit → St → Prop) (σ : St) (loc : Locs) (kn : Nat → Prop) (a : Act) (w : World), vc P M c K σ → CI E Φ σ loc kn a w → c.wpIn (FW ro) n P (Reach E Φ K) a w
  | .skip, K, σ, loc, kn, a, w, h, hc => wpIn_skip ⟨σ, loc, kn, h, hc⟩
  | .region id ops false, K, σ, loc, kn, a, w, h, hc => region_sound hY h hc
  | .region id ops true, K, σ, loc, kn, a, w, h, hc => draw_sound hmo h hc
  | .seq x y, K, σ, loc, kn, a, w, h, hc => by
    refine wpIn_seq (wpIn_mono (vc_sound hmo hY hR x _ σ loc kn a w h hc) (fun e a' w' ⟨τ, l, k, h1, h2⟩ => ?_))
    cases e with
    | normal => exact vc_sound hmo hY hR y K τ l k a' w' h1 h2
    | _ => exact ⟨τ, l, k, h1, h2⟩
  | .cond c x y, K, σ, loc, kn, a, w, h, hc => by
    unfold vc CondS at h
    split at h
    · rename_i b hb
      have hv := evRep hc.c.slots c
      rw [hb] at hv
      have hv := hv.val
      refine wpIn_cond_split hv (fun e => vc_sound hmo hY hR x K σ loc kn a w (h.1 e) hc) (fun e => vc_sound hmo hY hR y K σ loc kn a w (h.2 e) hc)
    · exact h.elim
  | .block id b, K, σ, loc, kn, a, w, h, hc => by
    refine wpIn_block (wpIn_mono (vc_sound hmo hY hR b _ σ loc kn a w h hc) (fun e a' w' ⟨τ, l, k, h1, h2⟩ => ?_))
    cases e with
    | exit i =>
      simp only [blockK] at h1
      simp only [Exit.inBlock]
      split at h1
      · rename_i e; rw [if_pos e]; exact ⟨τ, l, k, h1, h2⟩
      · rename_i e; rw [if_neg e]; exact ⟨τ, l, k, h1, h2⟩
    | _ => exact ⟨τ, l, k, h1, h2⟩
  | .loop b, K, σ, loc, kn, a, w, h, hc => by
    obtain ⟨gs, α, inv, φ, m, x0, h0, hn, hs, hstep⟩ := h
    have hle := hc.le
    obtain ⟨σ', loc, kn, hs, hc⟩ := ghosts_sound hs hc
    intro b' k cs hro hb hr
    have key : ∀ n' x, m x = n' → φ x → ∀ loc kn a w, CI E Φ (inv x) loc kn a w →
        ∃ e a' w', Reach E Φ K e a' w' ∧ ArrivesIn (Machine.fenced P (FW ro)) P (lone (b'.atR a (.code b :: .inLoop b :: k)) cs w) b' k cs e a' w' := by
      intro n'
      induction n' using Nat.strongRecOn with
      | _ n' ih =>
        intro x hx hφ loc kn a w hc
        obtain ⟨e, a1, w1, ⟨τ, l, kk, h1, h2⟩, harr⟩ := vc_sound hmo hY hR b (loopK inv φ m x K) (inv x) loc kn a w (hstep x hφ) hc b' (.inLoop b :: k) cs hro hb hr
        cases e with
        | normal =>
          obtain ⟨y, hy1, hy2, hy3⟩ := h1
          obtain ⟨e2, a2, w2, hq, harr2⟩ := ih (m y) (by omega) y rfl hy1 l _ a1 w1 (h2.sub hy3 (Nat.le_trans hle (hn y hy1)))
          exact ⟨e2, a2, w2, hq, .of_steps (StepsIn.trans harr (.one (fenced_calm hb hr rfl) stepR_inLoop)) harr2⟩
        | exit id => exact ⟨_, a1, w1, ⟨τ, l, kk, h1, h2⟩, .pass (x := .inLoop b) rfl (fun _ _ => .inl (by simp)) harr⟩
        | goto l' => exact ⟨_, a1, w1, ⟨τ, l, kk, h1, h2⟩, .pass (x := .inLoop b) rfl (fun _ _ => .inl (by simp)) harr⟩
        | ret => exact ⟨_, a1, w1, ⟨τ, l, kk, h1, h2⟩, .pass (x := .inLoop b) rfl (fun _ _ => .inl (by simp)) harr⟩
        | panic ch => exact ⟨_, a1, w1, ⟨τ, l, kk, h1, h2⟩, .pass (x := .inLoop b) rfl (fun _ _ => .inl (by simp)) harr⟩
        | outgrown => exact ⟨_, a1, w1, ⟨τ, l, kk, h1, h2⟩, .pass (x := .inLoop b) rfl (fun _ _ => .inl (by simp)) harr⟩
    obtain ⟨e, a', w', hq, harr⟩ := key _ x0 rfl h0 loc _ a w (hc.sub hs (Nat.le_trans hle (hn x0 h0)))
    exact ⟨e, a', w', hq, .of_steps (.one (fenced_calm hb hr rfl) stepR_loop) harr⟩
  | .exit id, K, σ, loc, kn, a, w, h, hc => wpIn_exit ⟨σ, loc, kn, h, hc⟩
  | .scope b, K, σ, loc, kn, a, w, h, hc => by
    refine wpIn_scope_straight (wpIn_mono (vc_sound hmo hY hR b _ σ loc kn a w h hc) (fun e a' w' ⟨τ, l, k, h1, h2⟩ => ?_))
    cases e with
    | goto l' => exact h1.elim
    | _ => exact ⟨τ, l, k, h1, h2⟩
  | .label _, K, σ, loc, kn, a, w, h, hc => wpIn_label ⟨σ, loc, kn, h, hc⟩
  | .ret, K, σ, loc, kn, a, w, h, hc => wpIn_ret ⟨σ, loc, kn, h, hc⟩
  | .rangeFunc g ps as b, K, σ, loc, kn, a, w, h, hc => hR g ps as b K σ loc kn a w h hc
  | .goto _, _, _, _, _, _, _, h, _ => h.elim
  | .refuse _, _, _, _, _, _, _, h, _ => h.elim
end
end Go.Pm
/-
  The pure machine: ranges over functions, the iterator walked in place.
-/
set_option linter.unusedSimpArgs false
set_option linter.unusedVariables false
namespace Go.Pm
open Go.RowKit

section
variable {P : Program} {E : Env} {loc : Locs} {kn : Nat → Prop} {w : World} {a : Act} {σ : St}

/-- blocks that hold no cells turn -/
structure RawTo (B : Nat) (w w' : World) : Prop where
  os : w'.os = w.os
  tape : w'.tape = w.tape
  output : w'.output = w.output
  size : w'.heap.size = w.heap.size
  blk : ∀ b, w'.heap[b]? = w.heap[b]? ∨ (B ≤ b ∧ ∃ o, w.heap[b]? = some o ∧ o.rawO = true)
theorem RawTo.refl (B : Nat) (w : World) : RawTo B w w := ⟨rfl, rfl, rfl, rfl, fun _ => .inl rfl⟩
theorem RawTo.trans {B : Nat} {w w1 w2 : World} (h : RawTo B w w1) (k : RawTo B w1 w2) : RawTo B w w2 :=
  ⟨k.os.trans h.os, k.tape.trans h.tape, k.output.trans h.output, k.size.trans h.size, fun b => by
    rcases k.blk b with k1 | ⟨k1, o, k2, k3⟩ <;> rcases h.blk b with h1 | ⟨h1, o', h2, h3⟩
    · exact .inl (k1.trans h1)
    · exact .inr ⟨h1, o', h2, h3⟩
    · exact .inr ⟨k1, o, h1 ▸ k2, k3⟩
    · exact .inr ⟨h1, o', h2, h3⟩⟩
theorem RawTo.put {B b : Nat} {w : World} {o : Obj} (o' : Obj) (h : w.heap[b]? = some o) (hr : o.rawO = true) (hb : B ≤ b) : RawTo B w (w.putObj b o') :=
  ⟨rfl, rfl, rfl, by simp, fun x => by
    by_cases e : x = b
    · subst e; exact .inr ⟨hb, o, h, hr⟩
    · exact .inl (World.putObj_heap_other e)⟩
theorem RawTo.rd {B : Nat} {w w' : World} (h : RawTo B w w') {b o : Nat} {v : Value} (hr : rd w b o v) : rd w' b o v := by
  rcases h.blk b with h1 | ⟨_, x, h2, h3⟩
  · exact cell_old hr h1
  · have := hr.1
    simp only [World.cell?, h2] at this
    cases x <;> first | exact absurd (show (none : Option Value) = some v from this) (by simp) | exact absurd (show false = true from h3) (by simp)
theorem MC.rawTo {hg : Nat → Option Ob} {B : Nat} {w' : World} (h : MC E hg loc kn w) (hr : RawTo B w w') (hB : E.w0.heap.size ≤ B) : MC E hg loc kn w' ∧ TrX E (fun b => B ≤ b) hg loc kn w hg loc kn w' := by
  have same : ∀ id b, hg id ≠ none → (loc id).has b → w'.heap[b]? = w.heap[b]? := fun id b h1 h2 => by
    obtain ⟨c, t, h3⟩ := h.cells h1 h2
    rcases hr.blk b with h4 | ⟨_, o, h4, h5⟩
    · exact h4
    · rw [h3] at h4; cases h4; cases h5
  have hC : Cx.le (cxOf E hg loc w) (cxOf E hg loc w') := ⟨fun b o v h1 _ => hr.rd h1, fun _ _ _ _ h => h, fun _ _ _ _ _ h => h, rfl⟩
  refine ⟨⟨⟨hr.os.trans h.ext.os, hr.tape.trans h.ext.tape, hr.output.trans h.ext.output, by rw [hr.size]; exact h.ext.size, fun k hk => ?_⟩, fun b o ha => by rw [hr.size]; exact h.amlt b o ha, fun id ob hi => ?_, h.sep, fun id b h1 h2 => by rw [hr.size]; exact h.fresh id b h1 h2, h.amno⟩,
    ⟨hC, .refl _ _ _, fun _ h => h, by rw [hr.size]; exact Nat.le_refl _, fun b _ _ hx => ?_, fun id b h1 h2 => .inl ⟨id, h1, h2⟩⟩⟩
  · rcases hr.blk k with h1 | ⟨h1, _⟩
    · exact h1.trans (h.ext.block k hk)
    · omega
  · obtain ⟨g1, g2⟩ := h.objs id ob hi
    exact ⟨g1, g2.le hC (.refl _ _ _) (fun _ h => h) (fun b hb => same id b (by simp [hi]) hb)⟩
  · rcases hr.blk b with h1 | ⟨h1, _⟩
    · exact h1
    · exact absurd h1 hx
theorem MC.put {hg : Nat → Option Ob} {l : Nat} {o o' : Obj} (h : MC E hg loc kn w) (ho : w.heap[l]? = some o) (hr : o.rawO = true) (hl : E.w0.heap.size ≤ l) : MC E hg loc kn (w.putObj l o') ∧ TrX E (· = l) hg loc kn w hg loc kn (w.putObj l o') := by
  obtain ⟨h1, h2⟩ := h.rawTo (RawTo.put o' ho hr hl) (Nat.le_refl _)
  exact ⟨h1, ⟨h2.cx, h2.rf, h2.kn, h2.sz, fun b _ _ hx => World.putObj_heap_other hx, h2.own⟩⟩
theorem TrX.mono {X X' : Nat → Prop} {hg hg' : Nat → Option Ob} {loc' : Locs} {kn' : Nat → Prop} {w' : World} (h : TrX E X hg loc kn w hg' loc' kn' w') (hx : ∀ b, b < w.heap.size → X b → X' b) : TrX E X' hg loc kn w hg' loc' kn' w' :=
  ⟨h.cx, h.rf, h.kn, h.sz, fun b h1 h2 h3 => h.blk b h1 h2 (fun h4 => h3 (hx b h1 h4)), h.own⟩
theorem CI.rawTo {Φ : Fr} {w' : World} (h : CI E Φ σ loc kn a w) (hr : RawTo Φ.w.heap.size w w') : Conc E σ loc kn a w' ∧ In E Φ (hget σ.h) loc kn w' := by
  obtain ⟨h1, h2⟩ := h.c.mc.rawTo hr h.i.w0
  refine ⟨⟨h1, fun u => (h.c.slots u).le h2.cx h2.rf h2.kn, h.c.size, h.c.known⟩, ⟨?_, fun b o hb => ⟨(h.i.keep b o hb).1, ?_⟩, h.i.knlt, h.i.llt, h.i.w0⟩⟩
  · have := h.i.tr
    exact ⟨this.cx.trans h2.cx, this.rf.trans h2.rf this.kn, fun id hi => h2.kn id (this.kn id hi), Nat.le_trans this.sz h2.sz, fun b hb hno hx => by
      rcases hr.blk b with h3 | ⟨h3, _⟩
      · exact h3.trans (this.blk b hb hno hx)
      · omega, this.own⟩
  · rcases hr.blk b with h3 | ⟨h3, _⟩
    · exact h3.trans (h.i.keep b o hb).2
    · have := h.i.llt b o hb
      omega

/-- the marks of loops over functions, as a frame leaves -/
theorem leaves_marks {n : Nat} {ro : Option Nat} {fn : Func} {tmps : Array Value} {R : Ending → World → Prop} {B : Nat} : ∀ (bs : List Nat) (w : World), bs.Nodup → (∀ b ∈ bs, w.heap[b]? = some (.deferred (some [])) ∧ B ≤ b) →
    (∀ w', RawTo B w w' → ∃ v, (results fn tmps).run P w' = .ok v w' ∧ R (.returned v) w') → LeavesInM (FW ro) n P fn tmps R (bs.map fun b => { target := .collected b, args := #[] }) .returning w
  | [], w, _, _, h => h w (.refl _ _)
  | b :: bs, w, hn, hb, h => by
    obtain ⟨h1, h2⟩ := hb b List.mem_cons_self
    obtain ⟨n1, n2⟩ := List.nodup_cons.1 hn
    refine ⟨by simp, .inl ⟨b, _, rfl, run_takeDeferred h1, ?_⟩⟩
    have hr := RawTo.put (B := B) (.deferred none) h1 rfl h2
    refine leaves_marks bs _ n2 (fun c hc => ?_) (fun w' hw => h w' (hr.trans hw))
    obtain ⟨h3, h4⟩ := hb c (List.mem_cons_of_mem _ hc)
    exact ⟨(World.putObj_heap_other (fun e => n1 (by rw [← e]; exact hc))).trans h3, h4⟩

/-! ### values without a yield -/
mutual
def noYd : PV → Prop
  | .yd => False
  | .lt cs => noYs cs
  | .lp cs => noYs cs
  | .agg cs => noYs cs
  | .tup cs => noYs cs
  | .fn _ cs => noYs cs
  | .any => True
  | .d _ => True
  | .nl => True
  | .bw _ => True
  | .sr _ _ => True
  | .pr _ _ _ _ => True
  | .st _ _ => True
  | .tv _ _ _ _ => True
  | .po _ _ _ => True
  | .sw _ _ => True
  | .pw _ _ _ _ => True
def noYs : List PV → Prop
  | [] => True
  | p :: l => noYd p ∧ noYs l
end
theorem noYs_get : ∀ {l : List PV}, noYs l → ∀ (j : Nat) (p : PV), l[j]? = some p → noYd p
  | [], _, j, p, h => by cases h
  | q :: l, h, j, p, hj => by
    cases j with
    | zero => cases hj; exact h.1
    | succ j => exact noYs_get h.2 j p hj
def noYT : Slots → Prop
  | [] => True
  | (_, p) :: l => noYd p ∧ noYT l
def noYH : Heap → Prop
  | [] => True
  | (_, .box cs) :: l => noYs cs ∧ noYH l
  | (_, _) :: l => noYH l
theorem noYT_get : ∀ {t : Slots}, noYT t → ∀ u, noYd (get t u)
  | [], _, u => trivial
  | (v, p) :: t, h, u => by
    simp only [get]
    split
    · exact h.1
    · exact noYT_get h.2 u
theorem noYH_get : ∀ {h : Heap}, noYH h → ∀ id cs, hget h id = some (.box cs) → noYs cs
  | [], _, id, cs, e => by cases e
  | (v, o) :: h, hh, id, cs, e => by
    have h1 : (∀ cs, o = .box cs → noYs cs) ∧ noYH h := by
      cases o with
      | box cs => exact ⟨fun cs' h => by cases h; exact hh.1, hh.2⟩
      | arr a => exact ⟨fun cs' h => (by cases h), hh⟩
      | tab a => exact ⟨fun cs' h => (by cases h), hh⟩
      | dead => exact ⟨fun cs' h => (by cases h), hh⟩
    simp only [hget] at e
    split at e
    · exact h1.1 cs (Option.some.inj e)
    · exact noYH_get h1.2 id cs e
abbrev Env.setY (E : Env) (y : Option Nat) : Env := ⟨E.w0, E.am, y⟩
theorem PRep.setY {C C' : Cx} {hg : Nat → Option Ob} (hw : C'.w = C.w) (ho : C'.ow = C.ow) (ha : C'.am = C.am) {p : PV} {v : Value} (h : PRep C hg loc kn p v) (hn : noYd p) : PRep C' hg loc kn p v := by
  have hD : C.leD C' := fun b o v h1 h2 h3 => by rw [hw, ho, ha]; exact ⟨h1, h2, h3⟩
  induction h with
  | any v => exact .any v
  | d h => exact .d (h.leD hD)
  | nl => exact .nl
  | yd h => exact hn.elim
  | bw f hcell hrep => exact .bw f (fun j p h1 => by rw [hw, ho]; exact hcell j p h1) (fun j p h1 => (hrep j p h1).leD hD)
  | sr hk ho hv h => exact .sr hk ho hv h
  | pr hk ho hv hb ha => exact .pr hk ho hv hb ha
  | lt f hc hm hcell _ ih => exact .lt f hc hm (fun j p h1 => by rw [hw, ho, ha]; exact hcell j p h1) (fun j p h1 => ih j p h1 (noYs_get hn j p h1))
  | lp f hcell _ ih => exact .lp f (fun j p h1 => by rw [hw, ho, ha]; exact hcell j p h1) (fun j p h1 => ih j p h1 (noYs_get hn j p h1))
  | st hk ho hv h => exact .st hk ho hv h
  | tv hk ho hv h => exact .tv hk ho hv h
  | po hk ho hv h => exact .po hk ho hv h
  | sw hk ho hv h => exact .sw hk ho hv h
  | pw hk ho hv h => exact .pw hk ho hv h
  | agg hl _ ih => exact .agg hl (fun j p v h1 h2 => ih j p v h1 h2 (noYs_get hn j p h1))
  | tup hl _ ih => exact .tup hl (fun j p v h1 h2 => ih j p v h1 h2 (noYs_get hn j p h1))
  | fn hl _ ih => exact .fn hl (fun j p v h1 h2 => ih j p v h1 h2 (noYs_get hn j p h1))
theorem MC.setY {h : Heap} (hm : MC E (hget h) loc kn w) (hn : noYH h) (y : Option Nat) : MC (E.setY y) (hget h) loc kn w := by
  have hD : (cxOf E (hget h) loc w).leD (cxOf (E.setY y) (hget h) loc w) := fun b o v h1 h2 h3 => ⟨h1, h2, h3⟩
  refine ⟨hm.ext, hm.amlt, fun id ob hi => ?_, hm.sep, hm.fresh, hm.amno⟩
  obtain ⟨g1, g2⟩ := hm.objs id ob hi
  refine ⟨g1, ?_⟩
  cases ob with
  | arr ar => exact ⟨g2.1, ArrAt.leD hD (fun _ _ => rfl) g2.2⟩
  | tab T => exact TabAt.leD hD (fun _ _ => rfl) g2
  | dead => exact g2
  | box cs =>
    have hcs := noYH_get hn id cs hi
    have g2 : BoxAt _ _ _ _ cs (loc id) := g2
    show BoxAt _ _ _ _ cs (loc id)
    cases hl : loc id with
    | no => rw [hl] at g2; exact g2
    | tb lo rl => rw [hl] at g2; exact g2
    | pl b cap =>
      rw [hl] at g2
      obtain ⟨c, e, k1, k2, k3⟩ := g2
      refine ⟨c, e, k1, k2, fun j p hj => ?_⟩
      obtain ⟨u, k4, k5, k6⟩ := k3 j p hj
      exact ⟨u, k4, k5, PRep.setY (C := cxOf E (hget h) loc w) (C' := cxOf (E.setY y) (hget h) loc w) rfl rfl rfl k6 (noYs_get hcs j p hj)⟩
theorem TrX.setY {E' : Env} {X : Nat → Prop} {hg hg' : Nat → Option Ob} {loc' : Locs} {kn' : Nat → Prop} {w' : World} (h : TrX E' X hg loc kn w hg' loc' kn' w') : TrX E X hg loc kn w hg' loc' kn' w' :=
  ⟨⟨h.cx.cell, h.cx.ow, fun _ _ _ _ _ h3 => h3, rfl⟩, h.rf, h.kn, h.sz, h.blk, h.own⟩

/-! ### the round -/
def zipS : List Tmp → List PV → Slots → Slots
  | p :: ps, x :: xs, t => zipS ps xs ((p, x) :: t)
  | _, _, t => t
def asgK (k : St → Prop) : Exit → St → Prop
  | .normal, ρ => k ρ
  | _, _ => False
def rndK (τ : St) (K : St → Bool → Prop) : Exit → St → Prop
  | .normal, ρ => K ⟨τ.m, τ.t, ρ.h, ρ.n⟩ true
  | _, _ => False
def allLt (m : Nat) : List Tmp → Prop
  | [] => True
  | p :: ps => p < m ∧ allLt m ps
/-- what a condition on code stands for: rd: the code may stand in a round -/
def SC (P : Program) (rd : Bool) (Y : List PV → St → (St → Bool → Prop) → Prop) (c : Code) (K : Exit → St → Prop) (σ : St) : Prop :=
  ∀ (E : Env) (Φ : Fr) (ro : Option Nat) (n : Nat) (loc : Locs) (kn : Nat → Prop) (a : Act) (w : World), (rd = false → ro = none) → YOk P E Φ ro n Y → CI E Φ σ loc kn a w → c.wpIn (FW ro) n P (Reach E Φ K) a w
theorem SC.mono {rd : Bool} {Y : List PV → St → (St → Bool → Prop) → Prop} {c : Code} {K K' : Exit → St → Prop} (h : SC P rd Y c K σ) (hk : ∀ e τ, K e τ → K' e τ) : SC P rd Y c K' σ := fun E Φ ro n loc kn a w h1 h2 h3 =>
  wpIn_mono (h E Φ ro n loc kn a w h1 h2 h3) (fun _ _ _ ⟨τ, l, k, h4, h5⟩ => ⟨τ, l, k, hk _ _ h4, h5⟩)
theorem YOk.anti {Φ : Fr} {ro : Option Nat} {n : Nat} {Y Y' : List PV → St → (St → Bool → Prop) → Prop} (h : YOk P E Φ ro n Y') (hy : ∀ as τ K, Y as τ K → Y' as τ K) : YOk P E Φ ro n Y := fun l as σ K loc kn w vs h1 h2 => h l as σ K loc kn w vs h1 (hy _ _ _ h2)
/-- the round, by what its code does -/
def roundS (P : Program) (σ0 : St) (ps : Array Tmp) (asg body : Code) (args : List PV) (τ : St) (K : St → Bool → Prop) : Prop :=
  args.length = ps.size ∧ allLt σ0.m ps.toList ∧ SC P true noM.Y asg (asgK (SC P true noM.Y body (rndK τ K))) ⟨σ0.m, zipS ps.toList args σ0.t, τ.h, τ.n⟩
def roundY (P : Program) (σ0 : St) (ps : Array Tmp) (asg body : Code) (args : List PV) (τ : St) (K : St → Bool → Prop) : Prop :=
  Side (args.length = ps.size ∧ allLt σ0.m ps.toList) τ fun τ => vc P noM asg (asgK (vc P noM body (rndK τ K))) ⟨σ0.m, zipS ps.toList args σ0.t, τ.h, τ.n⟩
def itK (σ : St) (K : Exit → St → Prop) : Exit → St → Prop
  | .normal, τ => noYH τ.h ∧ K .normal ⟨σ.m, σ.t, τ.h, τ.n⟩
  | .ret, τ => noYH τ.h ∧ K .normal ⟨σ.m, σ.t, τ.h, τ.n⟩
  | _, _ => False
def argSlots : Nat → List PV → Slots
  | _, [] => []
  | i, p :: l => (i, p) :: argSlots (i + 1) l
def RangeV (P : Program) (g : Operand) (ps : Array Tmp) (asg body : Code) (K : Exit → St → Prop) (σ : St) : Prop := match ev σ.t g with
  | .fn gf caps => ∃ fn c, P.funcs[gf]? = some fn ∧ fn.body = some c ∧ (fn.name == "runtime.NumGoroutine") = false ∧ fn.results = #[] ∧ caps.length + 1 ≤ fn.ntmps ∧ noYT σ.t ∧ noYH σ.h ∧
      vc P ⟨roundY P σ ps asg body, noM.R⟩ c (itK σ K) ⟨fn.ntmps, argSlots 0 (.yd :: caps), σ.h, σ.n⟩
  | _ => False
def RangeS (P : Program) (g : Operand) (ps : Array Tmp) (asg body : Code) (K : Exit → St → Prop) (σ : St) : Prop := match ev σ.t g with
  | .fn gf caps => ∃ fn c, P.funcs[gf]? = some fn ∧ fn.body = some c ∧ (fn.name == "runtime.NumGoroutine") = false ∧ fn.results = #[] ∧ caps.length + 1 ≤ fn.ntmps ∧ noYT σ.t ∧ noYH σ.h ∧
      SC P true (roundS P σ ps asg body) c (itK σ K) ⟨fn.ntmps, argSlots 0 (.yd :: caps), σ.h, σ.n⟩
  | _ => False
theorem SC.of_vc (hmo : P.follows .mixedOrders = true) {Y : List PV → St → (St → Bool → Prop) → Prop} {c : Code} {K : Exit → St → Prop} (h : vc P ⟨Y, noM.R⟩ c K σ) : SC P true Y c K σ := fun _ _ _ _ loc kn a w _ hy hc => vc_sound (M := ⟨Y, noM.R⟩) hmo hy .no c K σ loc kn a w h hc
theorem roundS_of (hmo : P.follows .mixedOrders = true) {σ0 : St} {ps : Array Tmp} {asg body : Code} (args : List PV) (τ : St) (K : St → Bool → Prop) (h : roundY P σ0 ps asg body args τ K) : roundS P σ0 ps asg body args τ K := by
  obtain ⟨⟨h1, h2⟩, h3⟩ := h
  refine ⟨h1, h2, (SC.of_vc hmo (Y := noM.Y) h3).mono (fun e ρ hk => ?_)⟩
  cases e with
  | normal => exact SC.of_vc hmo (Y := noM.Y) hk
  | _ => exact hk.elim
theorem RangeS_of (hmo : P.follows .mixedOrders = true) {g : Operand} {ps : Array Tmp} {asg body : Code} {K : Exit → St → Prop} (h : RangeV P g ps asg body K σ) : RangeS P g ps asg body K σ := by
  unfold RangeV at h
  unfold RangeS
  split at h
  · obtain ⟨fn, c, h1, h2, h3, h4, h5, h6, h7, h8⟩ := h
    exact ⟨fn, c, h1, h2, h3, h4, h5, h6, h7, fun E Φ ro n loc kn a w g1 g2 g3 => SC.of_vc hmo h8 E Φ ro n loc kn a w g1 (g2.anti (roundS_of hmo)) g3⟩
  · exact h.elim
def fnM (P : Program) : Md := ⟨noM.Y, RangeV P⟩

theorem argSlots_get : ∀ (l : List PV) (i u : Nat), get (argSlots i l) u = if i ≤ u ∧ u < i + l.length then (l[u - i]?).getD .any else .any
  | [], i, u => by simp [argSlots, get]
  | p :: l, i, u => by
    simp only [argSlots, get]
    split
    · rename_i e
      subst e
      rw [if_pos ⟨Nat.le_refl _, by simp⟩, Nat.sub_self]
      rfl
    · rename_i e
      rw [argSlots_get l (i + 1) u]
      by_cases h : i ≤ u ∧ u < i + (p :: l).length
      · simp only [List.length_cons] at h
        rw [if_pos (by omega), if_pos (by simp only [List.length_cons]; omega), show u - i = (u - (i + 1)) + 1 by omega, List.getElem?_cons_succ]
      · simp only [List.length_cons] at h
        rw [if_neg (by omega), if_neg (by simp only [List.length_cons]; omega)]
/-- the slots with which a function begins -/
theorem args_slots {C : Cx} {hg : Nat → Option Ob} {args : List PV} {vs : Array Value} {m : Nat} (hl : vs.size = args.length) (hrep : ∀ (j : Nat) (p : PV) (v : Value), args[j]? = some p → vs[j]? = some v → PRep C hg loc kn p v) (ds : List Deferred) :
    SlotsOk C hg loc kn (argSlots 0 args) { tmps := vs ++ Array.replicate (m - vs.size) undef, defers := ds } := fun u => by
  rw [argSlots_get]
  split
  · rename_i hu
    obtain ⟨_, hu⟩ := hu
    rw [Nat.zero_add] at hu
    rw [Nat.sub_zero, List.getElem?_eq_getElem hu]
    have hv : (vs ++ Array.replicate (m - vs.size) undef).getD u undef = vs[u] := by
      rw [Array.getD_eq_getD_getElem?, Array.getElem?_append_left (by omega), Array.getElem?_eq_getElem (by omega)]; rfl
    rw [hv, Option.getD_some]
    exact hrep u args[u] vs[u] (List.getElem?_eq_getElem hu) (Array.getElem?_eq_getElem (by omega))
  · exact .any _

def setTmps (ps : List Tmp) (vs : List Value) (t : Array Value) : Array Value := (ps.zip vs).foldl (fun t x => t.setIfInBounds x.1 x.2) t
theorem setTmps_size : ∀ (ps : List Tmp) (vs : List Value) (t : Array Value), (setTmps ps vs t).size = t.size
  | [], vs, t => rfl
  | p :: ps, [], t => rfl
  | p :: ps, v :: vs, t => by
    show (setTmps ps vs (t.setIfInBounds p v)).size = _
    rw [setTmps_size]; simp
theorem zipS_slots {C : Cx} {hg : Nat → Option Ob} : ∀ (ps : List Tmp) (xs : List PV) (vs : List Value) (t : Slots) (tm : Array Value) (ds : List Deferred), xs.length = ps.length → vs.length = ps.length → allLt tm.size ps →
    (∀ (j : Nat) (p : PV) (v : Value), xs[j]? = some p → vs[j]? = some v → PRep C hg loc kn p v) → SlotsOk C hg loc kn t { tmps := tm, defers := ds } → SlotsOk C hg loc kn (zipS ps xs t) { tmps := setTmps ps vs tm, defers := ds }
  | [], xs, vs, t, tm, ds, _, _, _, _, h => by
    have e1 : zipS [] xs t = t := by cases xs <;> rfl
    rw [e1]; exact h
  | p :: ps, [], vs, t, tm, ds, h, _, _, _, _ => by cases h
  | p :: ps, x :: xs, [], t, tm, ds, _, h, _, _, _ => by cases h
  | p :: ps, x :: xs, v :: vs, t, tm, ds, hx, hv, hp, hr, h => by
    refine zipS_slots ps xs vs ((p, x) :: t) (tm.setIfInBounds p v) ds (by simpa using hx) (by simpa using hv) (by rw [Array.size_setIfInBounds]; exact hp.2) (fun j q u h1 h2 => hr (j + 1) q u h1 h2) (fun u => ?_)
    simp only [get]
    split
    · rename_i e
      subst e
      have e : (tm.setIfInBounds p v).getD p undef = v := by
        rw [Array.getD_eq_getD_getElem?, Array.getElem?_setIfInBounds_self_of_lt hp.1]; rfl
      rw [e]; exact hr 0 x v rfl rfl
    · rename_i e
      have e2 : (tm.setIfInBounds p v).getD u undef = tm.getD u undef := by simp [Array.getD_eq_getD_getElem?, e]
      rw [e2]; exact h u

/-- one round -/
theorem round_ok {n l D : Nat} {ps : Array Tmp} {asg body : Code} {Φ : Fr} {fid : FuncId} {rc : Loop} (hrc : rc = { state := .ready, pending := none, fn := fid, tmps := a.tmps, params := ps, assign := asg, body := body, defers := D })
    (hEy : E.y = some l) (hl0 : E.w0.heap.size ≤ l) (hX : Φ.X = (· = l)) (hL : Φ.L l = some (.loop rc)) (hsz : a.tmps.size = σ.m) (hsl : SlotsOk (cxOf E Φ.hg Φ.loc Φ.w) Φ.hg Φ.loc Φ.kn σ.t a) : YOk P E Φ none n (roundS P σ ps asg body) := by
  intro l' args τ K loc kn w vs hy h hm hi hn hk hvs hrep
  obtain ⟨hal, hlt, h⟩ := h
  rw [hEy] at hy
  cases hy
  have hlw := (hi.keep l _ hL).2
  have hll := hi.llt l _ hL
  have hlw' : l < w.heap.size := (Array.getElem?_eq_some_iff.1 hlw).1
  have hX' : ∀ b, Φ.X b ↔ b = l := fun b => by rw [hX]
  refine ⟨rc.fn, _, rc.assign, rc.body, run_yield hlw (by rw [hrc]; simpa [hal] using hvs), ?_⟩
  -- the frame of the round, ahead of its beginning and behind it
  let Φ1 : Fr := ⟨(· = l), hget τ.h, loc, kn, w, τ.n, Φ.L⟩
  let Φ2 : Fr := ⟨(· = l), hget τ.h, loc, kn, w, τ.n, fun b => if b = l then some (.loop { rc with state := .busy }) else Φ.L b⟩
  have hfold : (rc.params.zip vs).foldl (fun tmps (x : Tmp × Value) => tmps.setIfInBounds x.1 x.2) rc.tmps = setTmps ps.toList vs.toList a.tmps := by
    rw [hrc]
    unfold setTmps
    rw [← Array.foldl_toList, Array.toList_zip]
  have hin1 : In E Φ1 (hget τ.h) loc kn w := ⟨⟨.refl _, .refl _ _ _, fun _ h => h, Nat.le_refl _, fun _ _ _ _ => rfl, fun id b h1 h2 => .inl ⟨id, h1, h2⟩⟩, hi.keep, hk, fun b o hb => Nat.lt_of_lt_of_le (hi.llt b o hb) hi.tr.sz, hm.ext.size⟩
  have hci1 : CI E Φ1 ⟨σ.m, zipS ps.toList args σ.t, τ.h, τ.n⟩ loc kn { tmps := setTmps ps.toList vs.toList a.tmps, defers := [] } w :=
    ⟨⟨hm, zipS_slots ps.toList args vs.toList σ.t a.tmps [] (by simpa using hal) (by simp [hvs, hal]) (by rw [hsz]; exact hlt) (fun j p v h1 h2 => hrep j p v h1 (by simpa using h2)) (fun u => (hsl u).le hi.tr.cx hi.tr.rf hi.tr.kn), by rw [setTmps_size]; exact hsz, hk⟩, hin1, Nat.le_refl _, .nil _ _⟩
  have e0 : rc.assign = asg := by rw [hrc]
  have e1 : rc.body = body := by rw [hrc]
  rw [e0, e1, hfold]
  refine roundIn_of_wpIn (F := FW none) trivial (wpIn_mono (h E Φ1 (some l) (n - 1) loc kn _ w (fun h => by cases h) .no hci1) (fun e a1 w1 ⟨ρ, loc1, kn1, hk1, hc1⟩ => ?_))
  cases e with
  | normal =>
    have hk1 : SC P true noM.Y body (rndK τ K) ρ := hk1
    have hl1 := (hc1.i.keep l _ hL).2
    have hl1' : l < w1.heap.size := (Array.getElem?_eq_some_iff.1 hl1).1
    refine ⟨_, run_beginRound hl1 (by rw [hrc]), ?_⟩
    obtain ⟨hm2, ht2⟩ := hc1.c.mc.put (o' := .loop { rc with state := .busy }) hl1 rfl hl0
    have hd2 : ∀ B ds, DefsOk B w1 ds → DefsOk B (w1.putObj l (.loop { rc with state := .busy })) ds := fun B ds ⟨bs, g1, g2, g3⟩ => ⟨bs, g1, g2, fun b hb => ⟨(World.putObj_heap_other (fun e => by subst e; have := (g3 _ hb).1; rw [hl1] at this; cases this)).trans (g3 b hb).1, (g3 b hb).2⟩⟩
    have hci2 : CI E Φ2 ρ loc1 kn1 a1 (w1.putObj l (.loop { rc with state := .busy })) := by
      refine ⟨⟨hm2, fun u => (hc1.c.slots u).le ht2.cx ht2.rf ht2.kn, hc1.c.size, hc1.c.known⟩, ⟨hc1.i.tr.trans ht2, fun b o hb => ?_, hc1.i.knlt, fun b o hb => ?_, hc1.i.w0⟩, hc1.le, hd2 _ _ hc1.nod⟩
      · by_cases e : b = l
        · subst e
          have hb : (if b = b then some (Obj.loop { rc with state := .busy }) else Φ.L b) = some o := hb
          rw [if_pos rfl] at hb
          cases hb
          exact ⟨rfl, World.putObj_heap_same hl1'⟩
        · have hb : (if b = l then some (Obj.loop { rc with state := .busy }) else Φ.L b) = some o := hb
          rw [if_neg e] at hb
          exact ⟨(hc1.i.keep b o hb).1, (World.putObj_heap_other e).trans (hc1.i.keep b o hb).2⟩
      · by_cases e : b = l
        · subst e; exact hlw'
        · have hb : (if b = l then some (Obj.loop { rc with state := .busy }) else Φ.L b) = some o := hb
          rw [if_neg e] at hb
          exact hc1.i.llt b o hb
    refine wpIn_mono (hk1 E Φ2 (some l) (n - 1) loc1 kn1 a1 _ (fun h => by cases h) .no hci2) (fun e a3 w3 ⟨ρ3, loc3, kn3, hk3, hc3⟩ => ?_)
    cases e with
    | normal =>
      have hk3 : K ⟨τ.m, τ.t, ρ3.h, ρ3.n⟩ true := hk3
      have hl3 := (hc3.i.keep l (.loop { rc with state := .busy }) (if_pos rfl)).2
      have hl3' : l < w3.heap.size := (Array.getElem?_eq_some_iff.1 hl3).1
      obtain ⟨hm4, ht4⟩ := hc3.c.mc.put (o' := .loop rc) hl3 rfl hl0
      have hrc2 : ({ ({ rc with state := .busy } : Loop) with state := .ready, pending := none } : Loop) = rc := by rw [hrc]
      have hend := run_endRound (P := P) none hl3
      simp only [Option.isNone_none, if_true, hrc2] at hend
      have htr := hc3.i.tr.trans ht4
      refine ⟨_, _, hend, true, ρ3.h, ρ3.n, loc3, kn3, rfl, hk3, hm4, ⟨?_, fun b o hb => ?_, hi.knlt, hi.llt, hi.w0⟩, htr.cx, htr.rf, htr.kn, fun B ds ⟨bs, g1, g2, g3⟩ => ⟨bs, g1, g2, fun b hb => ⟨?_, (g3 b hb).2⟩⟩, hc3.c.known, hc3.le⟩
      · exact hi.tr.trans (htr.mono (fun b _ hb => (hX' b).2 hb))
      · by_cases e : b = l
        · subst e
          rw [hL] at hb
          cases hb
          exact ⟨rfl, World.putObj_heap_same hl3'⟩
        · have hb' : (if b = l then some (Obj.loop { rc with state := .busy }) else Φ.L b) = some o := by rw [if_neg e]; exact hb
          exact ⟨(hc3.i.keep b o hb').1, (World.putObj_heap_other e).trans (hc3.i.keep b o hb').2⟩
      · obtain ⟨g4, _⟩ := g3 b hb
        have hne : b ≠ l := fun e => by subst e; rw [hlw] at g4; cases g4
        exact (htr.blk b (Array.getElem?_eq_some_iff.1 g4).1 (hm.raw g4 rfl) hne).trans g4
    | _ => exact hk3.elim
  | _ => exact hk1.elim

/-- a range over a function that is walked in place -/
theorem range_soundS {n : Nat} {Φ : Fr} : ROk P E Φ none n (RangeS P) := by
  intro g ps asg body K σ loc kn a w h hci
  unfold RangeS at h
  split at h
  · rename_i gf caps hg
    obtain ⟨fn, c, hf, hb, hname, hres, hcap, hnt, hnh, hvc⟩ := h
    have hgv := evRep hci.c.slots g
    rw [hg] at hgv
    generalize hav : a.eval g = av at hgv
    cases hgv with
    | @fn _ _ lb hlb hj =>
    have hnc : noYs caps := by
      cases g with
      | tmp u => have := noYT_get hnt u; rw [show get σ.t u = .fn gf caps from hg] at this; exact this
      | const v => simp only [ev] at hg; unfold zPV at hg; split at hg <;> cases hg
      | global _ => cases hg
      | func f => cases hg; trivial
    have eg : ∀ args w, (callFunc gf args).run P w = .ok (.enter gf args) w := fun args w => by
      have h1 : fn.name ≠ "runtime.NumGoroutine" := by simpa using hname
      simp [callFunc, hf, h1, hb]
    refine wpIn_rangeFunc ?_
    intro fid hfid
    obtain ⟨rc, hrc⟩ : ∃ rc : Loop, rc = { state := .ready, pending := none, fn := fid, tmps := a.tmps, params := ps, assign := asg, body := body, defers := w.heap.size } := ⟨_, rfl⟩
    obtain ⟨W1, hW1⟩ : ∃ W1, (w.alloc (.deferred (some []))).alloc (.loop rc) = W1 := ⟨_, rfl⟩
    have hsz1 : W1.heap.size = w.heap.size + 2 := by rw [← hW1]; simp
    have hL1 : W1.heap[w.heap.size + 1]? = some (.loop rc) := by
      rw [← hW1]; have := World.alloc_heap_new (w.alloc (.deferred (some []))) (.loop rc); rwa [World.size_alloc] at this
    have hK1 : W1.heap[w.heap.size]? = some (.deferred (some [])) := by
      rw [← hW1]; exact (Below.heap_alloc _ _ _ (by simp)).trans (World.alloc_heap_new w _)
    have hb1 : Below w.heap.size w W1 := by
      rw [← hW1]; exact ((Below.refl _ w).alloc (Nat.le_refl _) _).alloc (by simp) _
    have ht1 := Tr.ext hci.c.mc hb1
    have hE0 := hci.c.mc.ext.size
    refine ⟨w.heap.size + 1, [{ target := .collected w.heap.size, args := #[] }], W1, { target := .fn (.func gf) lb, args := #[.func (.yield (w.heap.size + 1)) #[] #[]] }, W1, gf,
      #[.func (.yield (w.heap.size + 1)) #[] #[]] ++ lb, W1, ?_, ?_, fun _ _ => trivial, ?_, fun h0 => (by cases h0), ?_⟩
    · rw [← hW1, hrc]; exact run_enterLoop_outer _ _ _ _ _
    · simp only [resolve, hav]
      simp -implicitDefEqProofs [go_sem]
    · simp [invoke, eg]
    · -- the iterator
      let Φi : Fr := ⟨(· = w.heap.size + 1), hget σ.h, loc, kn, W1, σ.n, fun b => if b = w.heap.size + 1 then some (.loop rc) else if b = w.heap.size then some (.deferred (some [])) else Φ.L b⟩
      have hLi : ∀ b o, Φi.L b = some o → (b = w.heap.size + 1 ∧ o = .loop rc) ∨ (b = w.heap.size ∧ o = .deferred (some [])) ∨ Φ.L b = some o := fun b o hb => by
        have hb : (if b = w.heap.size + 1 then some (Obj.loop rc) else if b = w.heap.size then some (.deferred (some [])) else Φ.L b) = some o := hb
        split at hb
        · cases hb; exact .inl ⟨by assumption, rfl⟩
        · split at hb
          · cases hb; exact .inr (.inl ⟨by assumption, rfl⟩)
          · exact .inr (.inr hb)
      have hLo : ∀ b o, Φ.L b = some o → Φi.L b = some o := fun b o hb => by
        have h1 : b < w.heap.size := (Array.getElem?_eq_some_iff.1 (hci.i.keep b o hb).2).1
        show (if b = w.heap.size + 1 then some (Obj.loop rc) else if b = w.heap.size then some (.deferred (some [])) else Φ.L b) = some o
        rw [if_neg (by omega), if_neg (by omega)]; exact hb
      let E' : Env := E.setY (some (w.heap.size + 1))
      have hin : In E' Φi (hget σ.h) loc kn W1 := ⟨⟨.refl _, .refl _ _ _, fun _ h => h, Nat.le_refl _, fun _ _ _ _ => rfl, fun id b h1 h2 => .inl ⟨id, h1, h2⟩⟩, fun b o hb => by
          rcases hLi b o hb with ⟨rfl, rfl⟩ | ⟨rfl, rfl⟩ | hb
          · exact ⟨rfl, hL1⟩
          · exact ⟨rfl, hK1⟩
          · have := hci.i.keep b o hb
            exact ⟨this.1, (hb1.block b (Array.getElem?_eq_some_iff.1 this.2).1).trans this.2⟩, hci.c.known, fun b o hb => by
          show b < W1.heap.size
          rcases hLi b o hb with ⟨rfl, rfl⟩ | ⟨rfl, rfl⟩ | hb
          · omega
          · omega
          · have := (Array.getElem?_eq_some_iff.1 (hci.i.keep b o hb).2).1
            omega, by show E.w0.heap.size ≤ W1.heap.size; omega⟩
      have hy : YOk P E' Φi none (n - 1) (roundS P σ ps asg body) := round_ok (E := E') (a := a) (D := w.heap.size) hrc rfl (by show E.w0.heap.size ≤ _; omega) rfl (if_pos rfl) hci.c.size (fun u => PRep.setY (C := cxOf E (hget σ.h) loc W1) (C' := cxOf E' (hget σ.h) loc W1) rfl rfl rfl ((hci.c.slots u).le ht1.cx ht1.rf ht1.kn) (noYT_get hnt u))
      refine callsIn_of_wp_marks (F := FW none) hf hb trivial ?_
      have hsl := args_slots (C := cxOf E' (hget σ.h) loc W1) (hg := hget σ.h) (loc := loc) (kn := kn) (args := .yd :: caps) (vs := #[.func (.yield (w.heap.size + 1)) #[] #[]] ++ lb) (m := fn.ntmps) (by simp [hlb]; omega) (fun j p v h1 h2 => by
        cases j with
        | zero =>
          cases h1
          have : v = yl (w.heap.size + 1) := by
            rw [Array.getElem?_append_left (by simp)] at h2
            exact (Option.some.inj h2).symm
          rw [this]; exact .yd rfl
        | succ j =>
          have h2 : lb[j]? = some v := by
            rw [Array.getElem?_append_right (by simp)] at h2
            simpa using h2
          exact PRep.setY (C := cxOf E (hget σ.h) loc W1) (C' := cxOf E' (hget σ.h) loc W1) rfl rfl rfl ((hj j p v h1 h2).le ht1.cx ht1.rf ht1.kn) (noYs_get hnc j p h1)) []
      have hcii : CI E' Φi ⟨fn.ntmps, argSlots 0 (.yd :: caps), σ.h, σ.n⟩ loc kn { tmps := #[.func (.yield (w.heap.size + 1)) #[] #[]] ++ lb ++ Array.replicate (fn.ntmps - (#[Value.func (.yield (w.heap.size + 1)) #[] #[]] ++ lb).size) undef, defers := [] } W1 :=
        ⟨⟨ht1.mc.setY hnh _, hsl, by simp [hlb]; omega, hci.c.known⟩, hin, Nat.le_refl _, .nil _ _⟩
      refine wpIn_mono (hvc E' Φi none (n - 1) loc kn _ W1 (fun _ => rfl) hy hcii) (fun e a' w' ⟨τ, loc', kn', hk', hc'⟩ => ?_)
      have fin : noYH τ.h ∧ K .normal ⟨σ.m, σ.t, τ.h, τ.n⟩ → LeavesInM (FW none) (n - 1) P fn a'.tmps (rangePost (FW none) n P (w.heap.size + 1) (Reach E Φ K) { a with defers := [{ target := .collected w.heap.size, args := #[] }] ++ a.defers }) a'.defers .returning w' := fun ⟨hnh', hK⟩ => by
        obtain ⟨bs, hbs, hnd, hmk⟩ := hc'.nod
        rw [hbs]
        refine leaves_marks bs w' hnd hmk (fun w'' hraw => ?_)
        obtain ⟨hcr, hir⟩ := hc'.rawTo hraw
        refine ⟨.tuple #[], by simp [results, hres], ?_⟩
        have hl2 := (hir.keep (w.heap.size + 1) (.loop rc) (if_pos rfl)).2
        obtain ⟨hm3', ht3'⟩ := hcr.mc.put (o' := .loop { rc with state := .exhausted }) hl2 rfl (by show E.w0.heap.size ≤ _; omega)
        have hm3 := hm3'.setY hnh' E.y
        have ht3 := ht3'.setY (E := E)
        have hirt := hir.tr.setY (E := E)
        have hend := run_endLoop (P := P) hl2 (by rw [hrc]; simp)
        have hpend : rc.pending = none := by rw [hrc]
        have hother : ∀ b, b ≠ w.heap.size + 1 → (w''.putObj (w.heap.size + 1) (.loop { rc with state := .exhausted })).heap[b]? = w''.heap[b]? := fun b hb => World.putObj_heap_other hb
        obtain ⟨W4, hW4⟩ : ∃ W4, W4 = w''.putObj (w.heap.size + 1) (.loop { rc with state := .exhausted }) := ⟨_, rfl⟩
        rw [← hW4] at hend hm3 ht3 hother
        rw [hpend] at hend
        refine ⟨none, W4, hend, ?_⟩
        -- back in the frame of the loop
        have htr : TrX E (fun b => w.heap.size ≤ b) (hget σ.h) loc kn w (hget τ.h) loc' kn' W4 :=
          ((ht1.x _).trans (hirt.mono (fun b _ (hb : b = w.heap.size + 1) => by omega))).trans (ht3.mono (fun b _ hb => by omega))
        have hkeep : ∀ b o, Φi.L b = some o → b ≠ w.heap.size + 1 → W4.heap[b]? = some o := fun b o hb hne => (hother b hne).trans (hir.keep b o hb).2
        have old : ∀ (b : Nat) (o : Obj), w.heap[b]? = some o → o.rawO = true → W4.heap[b]? = some o := fun b o hb hr => by
          have hlt := (Array.getElem?_eq_some_iff.1 hb).1
          exact (htr.blk b hlt (hci.c.mc.raw hb hr) (by omega)).trans hb
        refine ⟨⟨σ.m, σ.t, τ.h, τ.n⟩, loc', kn', hK, ⟨⟨hm3, fun u => (hci.c.slots u).le htr.cx htr.rf htr.kn, hci.c.size, hc'.c.known⟩, ⟨?_, fun b o hb => ⟨(hci.i.keep b o hb).1, old b o (hci.i.keep b o hb).2 (hci.i.keep b o hb).1⟩, hci.i.knlt, hci.i.llt, hci.i.w0⟩, Nat.le_trans hci.le hc'.le, ?_⟩⟩
        · have h1 := hci.i.tr
          exact ⟨h1.cx.trans htr.cx, h1.rf.trans htr.rf h1.kn, fun id hi => htr.kn id (h1.kn id hi), Nat.le_trans h1.sz htr.sz, fun b hb hno hx => (htr.blk b (Nat.lt_of_lt_of_le hb h1.sz) (fun ⟨id, g1, g2⟩ => (h1.own id b g1 g2).elim hno (fun g => absurd hb (by omega))) (by have := h1.sz; omega)).trans (h1.blk b hb hno hx),
            fun id b g1 g2 => (htr.own id b g1 g2).elim (fun ⟨i, g3, g4⟩ => h1.own i b g3 g4) (fun g => .inr (Nat.le_trans h1.sz g))⟩
        · obtain ⟨bs2, q1, q2, q3⟩ := hci.nod
          refine ⟨w.heap.size :: bs2, by rw [q1]; rfl, List.nodup_cons.2 ⟨fun hmem => ?_, q2⟩, fun b hb => ?_⟩
          · have := (Array.getElem?_eq_some_iff.1 (q3 _ hmem).1).1
            omega
          · rcases List.mem_cons.1 hb with rfl | hb
            · exact ⟨hkeep _ _ (by show (if w.heap.size = w.heap.size + 1 then some (Obj.loop rc) else if w.heap.size = w.heap.size then some (.deferred (some [])) else Φ.L w.heap.size) = _; rw [if_neg (by omega), if_pos rfl]) (by omega), hci.i.tr.sz⟩
            · exact ⟨old b _ (q3 b hb).1 rfl, (q3 b hb).2⟩
      cases e with
      | normal => exact fin hk'
      | ret => exact fin hk'
      | _ => exact hk'.elim
  · exact h.elim
theorem range_sound (hmo : P.follows .mixedOrders = true) {n : Nat} {Φ : Fr} : ROk P E Φ none n (RangeV P) := fun g ps asg body K σ loc kn a w h hci =>
  range_soundS g ps asg body K σ loc kn a w (RangeS_of hmo h) hci
end
end Go.Pm
/-
  The pure machine, part 13: functions.
-/
set_option linter.unusedSimpArgs false
set_option linter.unusedVariables false
namespace Go.Pm
open Go.RowKit

def retPV (P : Program) (t : Slots) (hg : Nat → Option Ob) : ResultVar → Option PV
  | .tmp u => some (get t u)
  | .cell u ty => match get t u with
    | .pr id _ _ off => match hg id, TY P ty with
      | some (.box cs), some T => if off + T.size ≤ cs.length ∧ (T.agg = false → T.size = 1) then some (mk T.agg ((cs.drop off).take T.size)) else none
      | _, _ => none
    | _ => none
def retPVs (P : Program) (t : Slots) (hg : Nat → Option Ob) : List ResultVar → Option (List PV)
  | [] => some []
  | x :: l => match retPV P t hg x, retPVs P t hg l with
    | some p, some ps => some (p :: ps)
    | _, _ => none
def retIs (hg : Nat → Option Ob) (p : PV) : R1 → Prop
  | .d x => d1 hg p = some x
  | .so el k es => match p with
    | .sr id ver => match hg id with
      | some (.arr a) => a.ver = ver ∧ a.fz = false ∧ a.el = el ∧ a.k = k ∧ a.es = es
      | _ => False
    | .nl => es = [] ∧ 0 < k
    | _ => False
  | .sto el rel k rows => match p with
    | .st id ver => match hg id with
      | some (.tab T) => T.ver = ver ∧ T.fz = false ∧ T.el = el ∧ T.rel = rel ∧ T.k = k ∧ T.out.Nodup ∧ T.out.map T.row = rows.map some
      | _ => False
    | .nl => rows = [] ∧ 0 < k
    | _ => False
def retsIs (hg : Nat → Option Ob) : List PV → List R1 → Prop
  | [], [] => True
  | p :: ps, r :: rs => retIs hg p r ∧ retsIs hg ps rs
  | _, _ => False
def ownId : PV → R1 → List Nat
  | .sr id _, .so _ _ _ => [id]
  | .st id _, .sto _ _ _ _ => [id]
  | _, _ => []
def ownIds : List PV → List R1 → List Nat
  | p :: ps, r :: rs => ownId p r ++ ownIds ps rs
  | _, _ => []
def frIds : List PV → List R1 → List Nat
  | p :: ps, .d _ :: rs => f1 p ++ frIds ps rs
  | _ :: ps, _ :: rs => frIds ps rs
  | _, _ => []
def apart : List Nat → List Nat → Prop
  | [], _ => True
  | i :: l, fr => ¬ i ∈ l ∧ ¬ i ∈ fr ∧ apart l fr
def RetS (P : Program) (fn : Func) (r : R) (σ : St) : Prop :=
  Got (retPVs P σ.t (hget σ.h) fn.results.toList) σ fun σ ps => (match r with
    | .one _ => ps.length = 1
    | .tup _ => ps.length ≠ 1) ∧ retsIs (hget σ.h) ps r.list ∧ apart (ownIds ps r.list) (frIds ps r.list)
def retK (P : Program) (fn : Func) (r : R) : Exit → St → Prop
  | .ret, σ => RetS P fn r σ
  | .normal, σ => RetS P fn r σ
  | _, _ => False

section
variable {P : Program} {E : Env} {loc : Locs} {kn : Nat → Prop} {w : World} {a : Act} {σ : St}

def resOne (a : Act) : ResultVar → Sem Value
  | .tmp t => pure (a.tmps.getD t undef)
  | .cell u t => do loadVar t (← asAddr (a.tmps.getD u undef))
theorem retPV_run (hc : Conc E σ loc kn a w) {x : ResultVar} {p : PV} (h : retPV P σ.t (hget σ.h) x = some p) :
    ∃ v, (resOne a x).run P w = .ok v w ∧ PRep (cxOf E (hget σ.h) loc w) (hget σ.h) loc kn p v := by
  cases x with
  | tmp u => cases h; exact ⟨_, rfl, hc.slots u⟩
  | cell u ty =>
    simp only [retPV] at h
    split at h
    · rename_i id ver i off hu
      split at h
      · rename_i cs T hcs hT
        split at h
        · rename_i hcond
          cases h
          obtain ⟨hsz, h1⟩ := hcond
          have hx := hc.slots u
          rw [hu] at hx
          obtain ⟨b, cap, c, e0, hl, hblk, hcl, hcell⟩ := hc.mc.box hcs
          generalize hav : a.tmps.getD u undef = av at hx
          cases hx with
          | pr hk ho hv hb ha =>
            have e1 := hb cs hcs b cap hl
            subst e1
            have hlen : ((c.toList.drop off).take T.size).length = T.size := by rw [List.length_take, List.length_drop, Array.length_toList]; omega
            have hrun := run_load_cells (w := w) hT b off ((c.toList.drop off).take T.size) hlen (fun j v hj => by
              have hjl : j < T.size := by rw [← hlen]; exact (List.getElem?_eq_some_iff.1 hj).1
              rw [List.getElem?_take_of_lt hjl, List.getElem?_drop, Array.getElem?_toList] at hj
              exact (rd_row hblk hj).1) h1
            refine ⟨_, by simp only [resOne]; rw [hav]; simp only [asAddr, Sem.run_bind, Sem.run_pure, Result.andThen_ok]; exact hrun, mkRep (by rw [hlen, List.length_take, List.length_drop]; omega) (fun hg => by rw [List.length_take, List.length_drop]; have := h1 hg; omega) (fun j p v hp hj => ?_)⟩
            have hjl : j < T.size := by rw [← hlen]; exact (List.getElem?_eq_some_iff.1 hj).1
            rw [List.getElem?_take_of_lt hjl, List.getElem?_drop] at hp hj
            rw [Array.getElem?_toList] at hj
            obtain ⟨u, h2, h3, h4⟩ := hcell _ p hp
            rw [hj] at h2
            cases h2
            exact h4
        · cases h
      · cases h
    · cases h

theorem retPVs_run (hc : Conc E σ loc kn a w) : ∀ {l : List ResultVar} {ps : List PV}, retPVs P σ.t (hget σ.h) l = some ps →
    ∃ vs : List Value, (l.mapM (resOne a)).run P w = .ok vs w ∧ vs.length = ps.length ∧ ps.length = l.length ∧ ∀ (j : Nat) (p : PV) (v : Value), ps[j]? = some p → vs[j]? = some v → PRep (cxOf E (hget σ.h) loc w) (hget σ.h) loc kn p v
  | [], ps, h => by cases h; exact ⟨[], rfl, rfl, rfl, fun j p v h => by cases h⟩
  | x :: l, ps, h => by
    simp only [retPVs] at h
    split at h
    · rename_i p ps' h1 h2
      cases h
      obtain ⟨v, g1, g2⟩ := retPV_run hc h1
      obtain ⟨vs, g3, g4, g5, g6⟩ := retPVs_run hc h2
      refine ⟨v :: vs, ?_, by simp [g4], by simp [g5], fun j p v hp hv => ?_⟩
      · rw [List.mapM_cons]
        simp only [Sem.run_bind, g1, Result.andThen_ok, g3, Sem.run_pure]
      · cases j with
        | zero => cases hp; cases hv; exact g2
        | succ j => exact g6 j p v hp hv
    · cases h

theorem results_run {fn : Func} (hc : Conc E σ loc kn a w) {ps : List PV} (h : retPVs P σ.t (hget σ.h) fn.results.toList = some ps) :
    ∃ vs : List Value, (results fn a.tmps).run P w = .ok (if vs.length = 1 then vs.getD 0 undef else .tuple vs.toArray) w ∧ vs.length = ps.length ∧ ∀ (j : Nat) (p : PV) (v : Value), ps[j]? = some p → vs[j]? = some v → PRep (cxOf E (hget σ.h) loc w) (hget σ.h) loc kn p v := by
  obtain ⟨vs, g1, g2, g3, g4⟩ := retPVs_run hc h
  refine ⟨vs, ?_, g2, g4⟩
  unfold results
  rw [Array.mapM_eq_mapM_toList]
  have g1' : (fn.results.toList.mapM (fun (x : ResultVar) => match x with
      | .tmp t => (pure (a.tmps.getD t undef) : Sem Value)
      | .cell a_1 t => do loadVar t (← asAddr (a.tmps.getD a_1 undef)))).run P w = .ok vs w := by
    rw [← g1]; congr 2
  rw [Sem.run_bind, Sem.run_map]
  erw [g1']
  by_cases h1 : vs.length = 1
  · match vs, h1 with
    | [v], _ => rfl
  · rw [if_neg h1]
    simp [h1]

theorem apart_spec : ∀ {l fr : List Nat}, apart l fr → (∀ i ∈ l, ¬ i ∈ fr) ∧ l.Nodup
  | [], _, _ => ⟨fun i h => (by cases h), List.nodup_nil⟩
  | i :: l, fr, ⟨h1, h2, h3⟩ => by
    obtain ⟨g1, g2⟩ := apart_spec h3
    exact ⟨fun j hj => by rcases List.mem_cons.1 hj with rfl | hj; exact h2; exact g1 j hj, List.nodup_cons.2 ⟨h1, g2⟩⟩

/-- a table's rows in the order in which they stand -/
def renum (out : List Nat) : Lc → Lc
  | .tb lo rl => .tb lo fun i => match out[i]? with
    | some r => rl r
    | none => .no
  | l => l
theorem renum_has {out : List Nat} {l : Lc} {b : Nat} (h : (renum out l).has b) : l.has b := by
  cases l with
  | no => exact h
  | pl _ _ => exact h
  | tb lo rl =>
    rcases h with h | ⟨i, h⟩
    · exact .inl h
    · cases ho : out[i]? with
      | none => simp only [ho] at h; exact h.elim
      | some r => simp only [ho] at h; exact .inr ⟨r, h⟩
/-- where the answers that are own objects lie -/
def retLc (hg : Nat → Option Ob) (loc : Locs) : PV → R1 → Lc
  | .sr id _, .so _ _ _ => loc id
  | .st id _, .sto _ _ _ _ => match hg id with
    | some (.tab T) => renum T.out (loc id)
    | _ => .no
  | .nl, .sto _ _ _ _ => .tb .no fun _ => .no
  | _, _ => .no
def retLcs (hg : Nat → Option Ob) (loc : Locs) : List PV → List R1 → List Lc
  | p :: ps, r :: rs => retLc hg loc p r :: retLcs hg loc ps rs
  | _, _ => []
theorem retLc_has {hg : Nat → Option Ob} {loc : Locs} {p : PV} {r : R1} {b : Nat} (h : (retLc hg loc p r).has b) : ∃ id ∈ ownId p r, (loc id).has b := by
  unfold retLc at h
  split at h
  · exact ⟨_, by simp [ownId], h⟩
  · split at h
    · exact ⟨_, by simp [ownId], renum_has h⟩
    · exact h.elim
  · rcases h with h | ⟨_, h⟩ <;> exact h.elim
  · exact h.elim
theorem retLcs_has {hg : Nat → Option Ob} {loc : Locs} : ∀ {ps : List PV} {rs : List R1} {l : Lc} {b : Nat}, l ∈ retLcs hg loc ps rs → l.has b → ∃ id ∈ ownIds ps rs, (loc id).has b
  | [], _, l, b, h, _ => by cases h
  | _ :: _, [], l, b, h, _ => by cases h
  | p :: ps, r :: rs, l, b, h, hb => by
    rcases List.mem_cons.1 h with rfl | h
    · obtain ⟨id, h1, h2⟩ := retLc_has hb
      exact ⟨id, List.mem_append_left _ h1, h2⟩
    · obtain ⟨id, h1, h2⟩ := retLcs_has h hb
      exact ⟨id, List.mem_append_right _ h1, h2⟩

/-- rows in the order in which they stand -/
theorem renum_at {C : Cx} {T : Tab} {l : Lc} {rows : List (List (List D))} (h : TabAt C T l) (hn : T.out.Nodup) (hr : T.out.map T.row = rows.map some) {el rel : TypeId} {k : Nat} (he : T.el = el) (hre : T.rel = rel) (hk : T.k = k) :
    TabAt C ⟨el, rel, k, 0, false, List.range rows.length, rows.map some⟩ (renum T.out l) ∧ T.out.length = rows.length := by
  subst he hre hk
  have hlen : T.out.length = rows.length := by have := congrArg List.length hr; simpa using this
  refine ⟨?_, hlen⟩
  cases l with
  | no => exact h
  | pl b cap => exact h
  | tb lo rl =>
    have hget : ∀ (i : Nat) (es : List (List D)), rows[i]? = some es → ∃ r, T.out[i]? = some r ∧ T.row r = some es := fun i es hi => by
      have := congrArg (·[i]?) hr
      simp only [List.getElem?_map, hi, Option.map_some] at this
      cases ho : T.out[i]? with
      | none => rw [ho] at this; cases this
      | some r => rw [ho] at this; exact ⟨r, rfl, by simpa using this⟩
    have hrow : ∀ (i : Nat), (⟨T.el, T.rel, T.k, 0, false, List.range rows.length, rows.map some⟩ : Tab).row i = rows[i]? := fun i => by
      simp only [Tab.row, List.getElem?_map]
      cases rows[i]? <;> rfl
    have hat : ∀ (i r : Nat), T.out[i]? = some r → (match T.out[i]? with
      | some r => rl r
      | none => .no) = rl r := fun i r hi => by rw [hi]
    refine ⟨h.pos, ?_, fun i es hi => ?_, fun i hi => ?_, fun i j b hb hb' => ?_, fun i b hb hb' => ?_, fun i r hi => ?_⟩
    · have hout := h.out
      cases lo with
      | no => have hout : T.out = [] := hout; show List.range rows.length = []; rw [← hlen, hout]; rfl
      | tb _ _ => exact hout.elim
      | pl b cap =>
        obtain ⟨c, k1, k2, k3, k4, k5⟩ := hout
        refine ⟨c, k1, k2, by simpa [← hlen] using k3, k4, fun i q es hq hes => ?_⟩
        have hil : i < rows.length := by have := (List.getElem?_eq_some_iff.1 hq).1; simpa using this
        rw [List.getElem?_range hil] at hq
        cases hq
        rw [hrow] at hes
        obtain ⟨r, h1, h2⟩ := hget i es hes
        rw [k5 i r es h1 h2]
        exact congrArg (fun l : Lc => some (l.val es.length)) (hat i r h1).symm
    · rw [hrow] at hi
      obtain ⟨r, h1, h2⟩ := hget i es hi
      have := h.row r es h2
      rw [← hat i r h1] at this
      exact this
    · rw [hrow] at hi
      have : T.out[i]? = none := List.getElem?_eq_none (by rw [hlen]; exact List.getElem?_eq_none_iff.1 hi)
      simp only [this]
    · cases hi : T.out[i]? with
      | none => simp only [hi] at hb; exact hb.elim
      | some r =>
        cases hj : T.out[j]? with
        | none => simp only [hj] at hb'; exact hb'.elim
        | some q =>
          simp only [hi] at hb
          simp only [hj] at hb'
          have := h.sep r q b hb hb'
          subst this
          obtain ⟨g1, g2⟩ := List.getElem?_eq_some_iff.1 hi
          obtain ⟨g3, g4⟩ := List.getElem?_eq_some_iff.1 hj
          have hp := List.pairwise_iff_getElem.1 hn
          rcases Nat.lt_trichotomy i j with h1 | h1 | h1
          · exact absurd (g2.trans g4.symm) (hp i j g1 g3 h1)
          · exact h1
          · exact absurd (g4.trans g2.symm) (hp j i g3 g1 h1)
    · cases hi : T.out[i]? with
      | none => simp only [hi] at hb'; exact hb'.elim
      | some r => simp only [hi] at hb'; exact h.off r b hb hb'
    · have hil : i < rows.length := by have := (List.getElem?_eq_some_iff.1 hi).1; simpa using this
      rw [List.getElem?_range hil] at hi
      cases hi
      simpa using hil

/-- what is handed back represents the answer -/
theorem rets_rep {am : Nat → Nat → Prop} {w0 : World} (hE : E = ⟨w0, am, none⟩) {hg : Nat → Option Ob} (hm : MC E hg loc kn w) {ps : List PV} {rs : List R1} {vs : List Value} (hr : retsIs hg ps rs) (hl : vs.length = ps.length)
    (hj : ∀ (j : Nat) (p : PV) (v : Value), ps[j]? = some p → vs[j]? = some v → PRep (cxOf E hg loc w) hg loc kn p v) (hap : apart (ownIds ps rs) (frIds ps rs)) :
    RRep am w0 w (.tup rs) (.tuple vs.toArray) := by
  obtain ⟨hap1, hap2⟩ := apart_spec hap
  obtain ⟨loc', kn', ht, hk'⟩ := Tr.frz hm (frIds ps rs)
  -- an own object of the answer is one that is not frozen
  have hown1 : ∀ (p : PV) (r : R1), retIs hg p r → ∀ id ∈ ownId p r, (∃ ar, hg id = some (.arr ar) ∧ ar.fz = false) ∨ ∃ T, hg id = some (.tab T) ∧ T.fz = false := fun p r h id hid => by
    unfold ownId at hid
    split at hid
    · rename_i i ver el k es
      have e : id = i := by simpa using hid
      subst e
      simp only [retIs] at h
      split at h
      · rename_i ar har; exact .inl ⟨ar, har, h.2.1⟩
      · exact h.elim
    · rename_i i ver el rel k rows
      have e : id = i := by simpa using hid
      subst e
      simp only [retIs] at h
      split at h
      · rename_i T hT; exact .inr ⟨T, hT, h.2.1⟩
      · exact h.elim
    · cases hid
  have hown : ∀ (ps : List PV) (rs : List R1), retsIs hg ps rs → ∀ id ∈ ownIds ps rs, (∃ ar, hg id = some (.arr ar) ∧ ar.fz = false) ∨ ∃ T, hg id = some (.tab T) ∧ T.fz = false := by
    intro ps
    induction ps with
    | nil => intro rs _ id h; cases rs <;> cases h
    | cons p ps ih =>
      intro rs h id hid
      cases rs with
      | nil => cases hid
      | cons r rs =>
        rcases List.mem_append.1 hid with h1 | h1
        · exact hown1 p r h.1 id h1
        · exact ih rs h.2 id h1
  have hsome : ∀ id ∈ ownIds ps rs, hg id ≠ none := fun id hid => by
    rcases hown ps rs hr id hid with ⟨_, h, _⟩ | ⟨_, h, _⟩ <;> simp [h]
  have hsame : ∀ id ∈ ownIds ps rs, upd (frz hg (frIds ps rs)) hg id = hg id := fun id hid => frz_not (hap1 id hid)
  have hhas : ∀ id ∈ ownIds ps rs, ∀ b, (loc' id).has b ↔ (loc id).has b := fun id hid b => by
    -- blocks of the elder place are blocks of the new one: the object was not touched
    have h1 := hsame id hid
    rcases hown ps rs hr id hid with ⟨ar, h2, _⟩ | ⟨T, h2, _⟩
    · obtain ⟨ar', h3, h4, _⟩ := ht.rf.arr id ar (hm.objs id _ h2).1 (h1.trans h2)
      rw [h2] at h3
      cases h3
      rw [(h4 rfl).2.2]
    · obtain ⟨T', h3, h4⟩ := ht.rf.tab id T (hm.objs id _ h2).1 (h1.trans h2)
      rw [h2] at h3
      cases h3
      obtain ⟨lo', rl', hl', hT'⟩ := ht.mc.tab (h1.trans h2)
      obtain ⟨lo, rl, hl2, hT2⟩ := hm.tab h2
      obtain ⟨lo3, rl3, g1, g2, g3⟩ := h4.2.2.2.2.2 lo' rl' hl'
      rw [hl2] at g1
      cases g1
      have hlo := g2 rfl
      subst hlo
      have hrl : ∀ r, rl r = rl' r := fun r => by
        cases hq : T.row r with
        | none => rw [hT2.gone r hq, hT'.gone r hq]
        | some es => exact g3 r es (row_lt hq) hq
      rw [hl', hl2]
      simp only [Lc.has, hrl]
  have hloc : ∀ id ∈ ownIds ps rs, (∀ ar, hg id = some (.arr ar) → loc' id = loc id) ∧ (∀ T, hg id = some (.tab T) → loc' id = loc id) := fun id hid => by
    have h1 := hsame id hid
    refine ⟨fun ar h2 => ?_, fun T h2 => ?_⟩
    · obtain ⟨ar', h3, h4, _⟩ := ht.rf.arr id ar (hm.objs id _ h2).1 (h1.trans h2)
      rw [h2] at h3
      cases h3
      exact (h4 rfl).2.2
    · obtain ⟨T', h3, h4⟩ := ht.rf.tab id T (hm.objs id _ h2).1 (h1.trans h2)
      rw [h2] at h3
      cases h3
      obtain ⟨lo', rl', hl', hT'⟩ := ht.mc.tab (h1.trans h2)
      obtain ⟨lo, rl, hl2, hT2⟩ := hm.tab h2
      obtain ⟨lo3, rl3, g1, g2, g3⟩ := h4.2.2.2.2.2 lo' rl' hl'
      rw [hl2] at g1
      cases g1
      have hlo := g2 rfl
      subst hlo
      have hrl : rl' = rl := funext fun r => by
        cases hq : T.row r with
        | none => rw [hT2.gone r hq, hT'.gone r hq]
        | some es => exact (g3 r es (row_lt hq) hq).symm
      rw [hl', hl2, hrl]
  have hD : Cx.leD (cxOf E (upd (frz hg (frIds ps rs)) hg) loc' w) ⟨w, owl (retLcs hg loc ps rs), am, none⟩ := fun b o v h1 h2 h3 => ⟨h1, fun ⟨l, h4, h5⟩ => by
      obtain ⟨id, h6, h7⟩ := retLcs_has h4 h5
      have h9 := hsame id h6
      have h10 := (hhas id h6 b).2 h7
      rcases hown ps rs hr id h6 with ⟨ar, g1, g2⟩ | ⟨T, g1, g2⟩
      · exact h2 ⟨id, _, h9.trans g1, h10, fun h => by rw [g2] at h; cases h⟩
      · exact h2 ⟨id, _, h9.trans g1, h10, g2⟩, by rw [hE] at h3; exact h3⟩
  refine ⟨retLcs hg loc ps rs, vs, rfl, ?_, ?_, fun l hl b hb => ?_⟩
  · -- one by one
    have key : ∀ (ps0 : List PV) (rs0 : List R1) (vs : List Value), retsIs hg ps0 rs0 → vs.length = ps0.length → (∀ i ∈ frIds ps0 rs0, i ∈ frIds ps rs) → (∀ i ∈ ownIds ps0 rs0, i ∈ ownIds ps rs) →
        (∀ (j : Nat) (p : PV) (v : Value), ps0[j]? = some p → vs[j]? = some v → PRep (cxOf E hg loc w) hg loc kn p v) → RAll ⟨w, owl (retLcs hg loc ps rs), am, none⟩ (retLcs hg loc ps0 rs0) rs0 vs := by
      intro ps0
      induction ps0 with
      | nil =>
        intro rs0 vs h hl _ _ _
        cases rs0 with
        | nil => cases vs with
          | nil => trivial
          | cons => cases hl
        | cons => cases h
      | cons p ps0 ih =>
        intro rs0 vs h hl hf ho hj
        cases rs0 with
        | nil => cases h
        | cons r rs0 =>
          cases vs with
          | nil => cases hl
          | cons v vs =>
            obtain ⟨h1, h2⟩ := h
            have hv := hj 0 p v rfl rfl
            refine ⟨?_, ih rs0 vs h2 (by simpa using hl) (fun i hi => hf i (by cases r <;> first | exact List.mem_append_right _ hi | exact hi)) (fun i hi => ho i (List.mem_append_right _ hi)) (fun j p v a b => hj (j + 1) p v a b)⟩
            cases r with
            | d x =>
              have e1 : retLc hg loc p (.d x) = .no := by cases p <;> rfl
              rw [e1]
              exact ⟨rfl, (d1_rep ht h1 (fun id hid => frz_in id (hf id (List.mem_append_left _ hid))) hv).leD hD⟩
            | so el k es =>
              simp only [retIs] at h1
              split at h1
              · rename_i id ver
                split at h1
                · rename_i ar har
                  obtain ⟨g1, g2, rfl, rfl, rfl⟩ := h1
                  have hid : id ∈ ownIds ps rs := ho id (List.mem_append_left _ (by simp [ownId]))
                  obtain ⟨k1, k2⟩ := ht.mc.arr ((hsame id hid).trans har)
                  rw [(hloc id hid).1 ar har] at k2
                  have k3 := ArrAt.leD hD (fun _ _ => rfl) k2
                  refine ⟨k1, ?_, ?_⟩
                  · show ArrAt _ _ (loc id)
                    cases hll : loc id with
                    | no => rw [hll] at k3; exact k3
                    | pl b cap => rw [hll] at k3; exact k3
                    | tb a b => rw [hll] at k3; exact k3
                  · show v = (loc id).val _
                    cases hv with
                    | sr _ _ _ hh =>
                      have := hh ar har g1
                      cases hll : loc id <;> rw [hll] at this <;> first | exact this | exact this.elim
                · exact h1.elim
              · obtain ⟨rfl, hk⟩ := h1
                cases hv
                exact ⟨hk, rfl, rfl⟩
              · exact h1.elim
            | sto el rel k rows =>
              simp only [retIs] at h1
              split at h1
              · rename_i id ver
                split at h1
                · rename_i T hT
                  obtain ⟨g1, g2, g3, g4, g5, g6, g7⟩ := h1
                  have hid : id ∈ ownIds ps rs := ho id (List.mem_append_left _ (by simp [ownId]))
                  obtain ⟨lo, rl, hl2, _⟩ := hm.tab hT
                  have k2 := (ht.mc.objs id _ ((hsame id hid).trans hT)).2
                  rw [(hloc id hid).2 T hT] at k2
                  have k3 := TabAt.leD (T := T) hD (fun _ _ => rfl) k2
                  obtain ⟨k4, k5⟩ := renum_at k3 g6 g7 g3 g4 g5
                  have e1 : retLc hg loc (.st id ver) (.sto el rel k rows) = renum T.out (loc id) := by simp only [retLc, hT]
                  rw [e1]
                  refine ⟨k4, fun lo2 rl2 hl3 => ?_⟩
                  rw [hl2] at hl3
                  cases hl3
                  cases hv with
                  | st _ _ _ hh => rw [hh T hT g1 _ _ hl2, k5]
                · exact h1.elim
              · obtain ⟨rfl, hk⟩ := h1
                cases hv
                refine ⟨⟨hk, rfl, fun r es he => ?_, fun _ _ => rfl, fun _ _ _ hb => hb.elim, fun _ _ hb => hb.elim, fun i r hi => by cases hi⟩, fun lo rl h => ?_⟩
                · simp [Tab.row] at he
                · cases h; rfl
              · exact h1.elim
    exact key ps rs vs hr hl (fun _ h => h) (fun _ h => h) hj
  · have key : ∀ (ps0 : List PV) (rs0 : List R1), (ownIds ps0 rs0).Nodup → (∀ i ∈ ownIds ps0 rs0, hg i ≠ none) → lcSep (retLcs hg loc ps0 rs0) := by
      intro ps0
      induction ps0 with
      | nil => intro rs0 _ _; cases rs0 <;> trivial
      | cons p ps0 ih =>
        intro rs0 hn hs
        cases rs0 with
        | nil => trivial
        | cons r rs0 =>
          obtain ⟨n1, n2, n3⟩ := List.nodup_append.1 hn
          refine ⟨fun b hb l hl hb' => ?_, ih rs0 n2 (fun i hi => hs i (List.mem_append_right _ hi))⟩
          obtain ⟨id, h1, h2⟩ := retLc_has hb
          obtain ⟨id', h3, h4⟩ := retLcs_has hl hb'
          exact n3 id h1 id' h3 (hm.sep id id' b (hs id (List.mem_append_left _ h1)) (hs id' (List.mem_append_right _ h3)) h2 h4)
    exact key ps rs hap2 hsome
  · obtain ⟨id, h1, h2⟩ := retLcs_has hl hb
    have := hm.fresh id b (hsome id h1) h2
    rw [hE] at this
    exact this

/-- a call, out of its body's condition -/
theorem SC.of_fn (hmo : P.follows .mixedOrders = true) {c : Code} {K : Exit → St → Prop} {σ : St} (h : vc P (fnM P) c K σ) : SC P false noM.Y c K σ := fun E Φ ro n loc kn a w h1 _ hc => by
  obtain rfl := h1 rfl
  exact vc_sound (M := fnM P) hmo .no (range_sound hmo) c K σ loc kn a w h hc
theorem body_calls {f : FuncId} {fn : Func} {c : Code} (hf : P.funcs[f]? = some fn) (hb : fn.body = some c) {Φ : Fr} {vs : Array Value} {K : Exit → St → Prop} (h : SC P false noM.Y c K σ) (hci : CI E Φ σ loc kn { tmps := vs ++ Array.replicate (fn.ntmps - vs.size) undef, defers := [] } w)
    {R : Ending → World → Prop} (hK : ∀ e τ, K e τ → e = .ret ∨ e = .normal) (hend : ∀ e a' τ l k w', K e τ → Conc E τ l k a' w' → In E Φ (hget τ.h) l k w' → ∃ v, (results fn a'.tmps).run P w' = .ok v w' ∧ R (.returned v) w') : Calls P f vs w R := by
  refine (callsIn_wide (n := 0)).1 (show CallsIn (FW none) 0 P f vs w R from callsIn_of_wp_marks hf hb trivial (wpIn_mono (h E Φ none 0 loc kn _ w (fun _ => rfl) .no hci) (fun e a' w' ⟨τ, l, k, h1, h2⟩ => ?_)))
  have fin : LeavesInM (FW none) 0 P fn a'.tmps R a'.defers .returning w' := by
    obtain ⟨bs, hbs, hnd, hmk⟩ := h2.nod
    rw [hbs]
    refine leaves_marks bs w' hnd hmk (fun w'' hraw => ?_)
    obtain ⟨g1, g2⟩ := h2.rawTo hraw
    exact hend e a' τ l k w'' h1 g1 g2
  rcases hK e τ h1 with rfl | rfl <;> exact fin

/-- A FUNCTION's CONTRACT, out of its body's condition -/
theorem pcallS_of {f : FuncId} {fn : Func} {c : Code} {args : List PV} {r : R} (hf : P.funcs[f]? = some fn) (hb : fn.body = some c) (hname : (fn.name == "runtime.NumGoroutine") = false) (hargs : args.length ≤ fn.ntmps)
    (h : SC P false noM.Y c (retK P fn r) ⟨fn.ntmps, argSlots 0 args, [], 0⟩) : PCall P f args r where
  enters as w := by
    have h1 : fn.name ≠ "runtime.NumGoroutine" := by simpa using hname
    simp [callFunc, hf, h1, hb]
  calls am w vs ham hl hrep := by
    have hm : MC ⟨w, am, none⟩ (hget []) (fun _ => .no) (fun _ => False) w := ⟨Below.refl _ _, ham, fun id ob h => (by cases h), fun id id' b h => (by exact absurd rfl h), fun id b h => (by exact absurd rfl h), fun id b o h => (by exact absurd rfl h)⟩
    have hC : Cx.le ⟨w, fun _ _ => False, am, none⟩ (cxOf ⟨w, am, none⟩ (hget []) (fun _ => .no) w) := ⟨fun _ _ _ h _ => h, fun b o v _ _ h => (by obtain ⟨id, ob, h, _⟩ := h; cases h), fun _ _ _ _ _ h => h, rfl⟩
    have hR : RefLe (fun _ => none) (hget []) (fun _ => .no) (fun _ => .no) (fun _ => False) := ⟨fun id cs hk => hk.elim, fun id ar hk => hk.elim, fun id T hk => hk.elim⟩
    let Φ : Fr := ⟨fun _ => False, hget [], fun _ => .no, fun _ => False, w, 0, fun _ => none⟩
    have hci : CI ⟨w, am, none⟩ Φ ⟨fn.ntmps, argSlots 0 args, [], 0⟩ (fun _ => .no) (fun _ => False) { tmps := vs ++ Array.replicate (fn.ntmps - vs.size) undef, defers := [] } w :=
      ⟨⟨hm, args_slots hl (fun j p v h1 h2 => (hrep j p v h1 h2).le hC hR (fun _ h => h)) [], by simp; omega, fun id h => h.elim⟩, ⟨⟨.refl _, .refl _ _ _, fun _ h => h, Nat.le_refl _, fun _ _ _ _ => rfl, fun id b h1 h2 => .inl ⟨id, h1, h2⟩⟩, fun b o hb => (by cases hb), fun id h => h.elim, fun b o hb => (by cases hb), Nat.le_refl _⟩, Nat.le_refl _, .nil _ _⟩
    refine body_calls hf hb h hci (fun e τ hk => ?_) (fun e a' τ l k w' h1 h2 _ => ?_)
    · cases e <;> first | exact .inl rfl | exact .inr rfl | exact hk.elim
    have fin : RetS P fn r τ → ∃ v, (results fn a'.tmps).run P w' = .ok v w' ∧ ∃ v', Ending.returned v = .returned v' ∧ Below w.heap.size w w' ∧ RRep am w w' r v' := fun hr => by
      obtain ⟨ps, hps, hone, hrs, hap⟩ := got_spec hr
      obtain ⟨vs', g1, g2, g3⟩ := results_run h2 hps
      have hrr := rets_rep rfl h2.mc hrs g2 g3 hap
      refine ⟨_, g1, _, rfl, h2.mc.ext, ?_⟩
      obtain ⟨ls, vs2, k1, k2, k3, k4⟩ := hrr
      have e : vs2 = vs' := by
        have : (vs'.toArray) = vs2.toArray := by simpa [R.val] using k1
        simpa using this.symm
      subst e
      cases r with
      | one r1 =>
        have h1 : vs2.length = 1 := g2.trans hone
        rw [if_pos h1]
        exact ⟨ls, vs2, rfl, k2, k3, k4⟩
      | tup rs =>
        have h1 : ¬ vs2.length = 1 := fun e => hone (g2.symm.trans e)
        rw [if_neg h1]
        exact ⟨ls, vs2, rfl, k2, k3, k4⟩
    cases e with
    | ret => exact fin h1
    | normal => exact fin h1
    | _ => exact h1.elim
theorem pcall_of (hmo : P.follows .mixedOrders = true) {f : FuncId} {fn : Func} {c : Code} {args : List PV} {r : R} (hf : P.funcs[f]? = some fn) (hb : fn.body = some c) (hname : (fn.name == "runtime.NumGoroutine") = false) (hargs : args.length ≤ fn.ntmps)
    (h : vc P (fnM P) c (retK P fn r) ⟨fn.ntmps, argSlots 0 args, [], 0⟩) : PCall P f args r := pcallS_of hf hb hname hargs (.of_fn hmo h)
end
end Go.Pm
/-
  The pure machine: calls that turn objects of their caller's.
-/
set_option linter.unusedSimpArgs false
set_option linter.unusedVariables false
namespace Go.Pm
open Go.RowKit

/-- objects that are handed back, under their new names -/
def outs (h : Heap) (γ : Nat → Nat) : List Nat → Option Heap
  | [] => some []
  | id :: l => match hget h id, outs h γ l with
    | some ob, some r => some ((γ id, renOb γ ob) :: r)
    | _, _ => none
def clH (S : Nat → Prop) (h : Heap) : List Nat → Prop
  | [] => True
  | id :: l => (match hget h id with
    | some (.box cs) => refsIns S False cs
    | _ => True) ∧ clH S h l
/-- new objects get names from nid on -/
def gam (nid : Nat) (L : List Nat) (id : Nat) : Nat := if id ∈ L then nid + L.idxOf id else id
def retOf : List PV → PV
  | [p] => p
  | ps => .tup ps
def RetH (P : Program) (fn : Func) (ids : List Nat) (nid : Nat) (L : List Nat) (r : PV) (h' : Heap) (τ : St) : Prop :=
  Got (retPVs P τ.t (hget τ.h) fn.results.toList) τ fun τ ps => Got (outs τ.h (gam nid L) (ids ++ L)) τ fun τ o =>
    Side (L.length ≤ 4 ∧ (∀ c ∈ L, nid ≤ c) ∧ refsIn (fun id => id ∈ ids ++ L) False (retOf ps) ∧ clH (fun id => id ∈ ids ++ L) τ.h (ids ++ L)) τ fun _ => r = ren (gam nid L) (retOf ps) ∧ h' = o
def retHK (P : Program) (fn : Func) (ids : List Nat) (nid : Nat) (L : List Nat) (r : PV) (h' : Heap) : Exit → St → Prop
  | .ret, σ => RetH P fn ids nid L r h' σ
  | .normal, σ => RetH P fn ids nid L r h' σ
  | _, _ => False

theorem upd_hget : ∀ (U : Heap) (g : Nat → Option Ob) (x : Nat), upd U g x = match hget U x with
    | some ob => some ob
    | none => g x
  | [], g, x => rfl
  | (u, p) :: l, g, x => by
    simp only [upd, hget]
    split
    · rfl
    · exact upd_hget l g x
theorem outs_get {h : Heap} {γ : Nat → Nat} : ∀ {l : List Nat} {r : Heap}, outs h γ l = some r → (∀ x y, x ∈ l → y ∈ l → γ x = γ y → x = y) → (∀ id ∈ l, ∃ ob, hget h id = some ob ∧ hget r (γ id) = some (renOb γ ob)) ∧ ∀ x, (∀ id ∈ l, γ id ≠ x) → hget r x = none
  | [], r, h0, _ => by cases h0; exact ⟨fun id h => (by cases h), fun x _ => rfl⟩
  | id :: l, r, h0, hi => by
    simp only [outs] at h0
    split at h0
    · rename_i ob r' h1 h2
      cases h0
      obtain ⟨g1, g2⟩ := outs_get h2 (fun x y hx hy => hi x y (List.mem_cons_of_mem _ hx) (List.mem_cons_of_mem _ hy))
      refine ⟨fun x hx => ?_, fun x hx => ?_⟩
      · by_cases e : γ id = γ x
        · have := hi id x List.mem_cons_self hx e
          subst this
          exact ⟨ob, h1, by simp [hget]⟩
        · rcases List.mem_cons.1 hx with rfl | hx
          · exact absurd rfl e
          · obtain ⟨ob', k1, k2⟩ := g1 x hx
            exact ⟨ob', k1, by simp only [hget, if_neg e]; exact k2⟩
      · simp only [hget, if_neg (hx id List.mem_cons_self)]
        exact g2 x (fun y hy => hx y (List.mem_cons_of_mem _ hy))
    · cases h0
theorem clH_get {S : Nat → Prop} {h : Heap} : ∀ {l : List Nat}, clH S h l → ∀ id ∈ l, ∀ cs, hget h id = some (.box cs) → refsIns S False cs
  | [], _, id, hi, _, _ => by cases hi
  | x :: l, hh, id, hi, cs, hc => by
    rcases List.mem_cons.1 hi with rfl | hi
    · have := hh.1
      rw [hc] at this
      exact this
    · exact clH_get hh.2 id hi cs hc
theorem renOb_owns (γ : Nat → Nat) (ob : Ob) (o : Nat) : (renOb γ ob).owns o ↔ ob.owns o := by
  cases ob <;> exact Iff.rfl

section
variable {P : Program}

theorem MC.part {E : Env} {hg : Nat → Option Ob} {loc : Locs} {kn : Nat → Prop} {w : World} (hm : MC E hg loc kn w) {hs : Heap} {nid : Nat} (hh : ∀ id ob, hget hs id = some ob → hg id = some ob) (hlt : heapLt nid hs) :
    MC ⟨E.w0, fun b o => E.am b o ∨ ∃ id ob, hg id = some ob ∧ hget hs id = none ∧ (loc id).has b ∧ ob.owns o, E.y⟩ (hget hs) loc (fun id => kn id ∧ id < nid) w ∧
    Cx.le (cxOf E hg loc w) (cxOf ⟨E.w0, fun b o => E.am b o ∨ ∃ id ob, hg id = some ob ∧ hget hs id = none ∧ (loc id).has b ∧ ob.owns o, E.y⟩ (hget hs) loc w) := by
  have hC : Cx.le (cxOf E hg loc w) (cxOf ⟨E.w0, fun b o => E.am b o ∨ ∃ id ob, hg id = some ob ∧ hget hs id = none ∧ (loc id).has b ∧ ob.owns o, E.y⟩ (hget hs) loc w) :=
    ⟨fun _ _ _ h _ => h, fun b o v _ g1 ⟨id, ob, g2, g3, g4⟩ => g1 ⟨id, ob, hh id ob g2, g3, g4⟩, fun b o v _ g1 g2 g3 => by
      rcases g3 with g3 | ⟨id, ob, g4, _, g5, g6⟩
      · exact g2 g3
      · exact g1 ⟨id, ob, g4, g5, g6⟩, rfl⟩
  refine ⟨⟨hm.ext, fun b o h => ?_, fun id ob hi => ?_, fun id id' b g1 g2 => ?_, fun id b g1 => ?_, fun id b o g1 g2 g3 => ?_⟩, hC⟩
  · rcases h with h | ⟨id, ob, g1, _, g2, _⟩
    · exact hm.amlt b o h
    · exact (hm.fresh id b (by simp [g1]) g2).2
  · obtain ⟨g1, g2⟩ := hm.objs id ob (hh id ob hi)
    obtain ⟨g3, g4⟩ := hget_lt hlt id ob hi
    refine ⟨⟨g1, g3⟩, ?_⟩
    cases ob with
    | arr ar => exact ⟨g2.1, ArrAt.le hC (fun _ _ => rfl) g2.2⟩
    | tab T => exact TabAt.le hC (fun _ _ => rfl) g2
    | dead => exact g2
    | box cs =>
      have g2 : BoxAt _ _ _ _ cs (loc id) := g2
      show BoxAt _ _ _ _ cs (loc id)
      cases hl : loc id with
      | no => rw [hl] at g2; exact g2
      | tb lo rl => rw [hl] at g2; exact g2
      | pl b cap =>
        rw [hl] at g2
        obtain ⟨c, e, k1, k2, k3⟩ := g2
        refine ⟨c, e, k1, k2, fun j p hj => ?_⟩
        obtain ⟨u, k4, k5, k6⟩ := k3 j p hj
        exact ⟨u, k4, k5, k6.sub hC hh (refsLts_get (g4 cs rfl) j p hj)⟩
  · obtain ⟨x, hx⟩ := Option.ne_none_iff_exists'.1 g1
    obtain ⟨y, hy⟩ := Option.ne_none_iff_exists'.1 g2
    exact hm.sep id id' b (by simp [hh _ _ hx]) (by simp [hh _ _ hy])
  · obtain ⟨x, hx⟩ := Option.ne_none_iff_exists'.1 g1
    exact hm.fresh id b (by simp [hh _ _ hx])
  · obtain ⟨x, hx⟩ := Option.ne_none_iff_exists'.1 g1
    rcases g3 with g3 | ⟨id', ob', g4, g5, g6, _⟩
    · exact hm.amno id b o (by simp [hh _ _ hx]) g2 g3
    · have := hm.sep id id' b (by simp [hh _ _ hx]) (by simp [g4]) g2 g6
      subst this
      exact g1 g5

/-- what a call leaves, seen from its caller -/
theorem call_back {E : Env} {hg : Nat → Option Ob} {loc : Locs} {kn : Nat → Prop} {w : World} (hm : MC E hg loc kn w) {hs : Heap} {nid : Nat} (hn : ∀ j, j < 4 → ¬ kn (nid + j)) (hh : ∀ id ob, hget hs id = some ob → hg id = some ob) (hlt : heapLt nid hs) {E1 : Env} (hE1 : E1 = ⟨E.w0, fun b o => E.am b o ∨ ∃ id ob, hg id = some ob ∧ hget hs id = none ∧ (loc id).has b ∧ ob.owns o, E.y⟩)
    {h1 : Heap} {loc1 : Locs} {k1 : Nat → Prop} {w' : World} (hm1 : MC E1 (hget h1) loc1 k1 w') (ht1 : TrX E1 (fun _ => False) (hget hs) loc (fun id => kn id ∧ id < nid) w (hget h1) loc1 k1 w') {L : List Nat} {h' : Heap} (hL4 : L.length ≤ 4) (hLge : ∀ c ∈ L, nid ≤ c)
    (hout : outs h1 (gam nid L) (hs.map (·.1) ++ L) = some h') (hcl : clH (fun id => id ∈ hs.map (·.1) ++ L) h1 (hs.map (·.1) ++ L)) :
    ∃ loc' kn', Tr E hg loc kn w (upd h' hg) loc' kn' w' ∧ (∀ id, kn' id → kn id ∨ (nid ≤ id ∧ id < nid + 4)) ∧
      ∀ (p : PV) (v : Value), refsIn (fun id => id ∈ hs.map (·.1) ++ L) False p → PRep (cxOf E1 (hget h1) loc1 w') (hget h1) loc1 k1 p v → PRep (cxOf E (upd h' hg) loc' w') (upd h' hg) loc' kn' (ren (gam nid L) p) v := by
  obtain ⟨Ids, hIds⟩ : ∃ Ids, Ids = hs.map (·.1) ++ L := ⟨_, rfl⟩
  obtain ⟨γ, hγ⟩ : ∃ γ, γ = gam nid L := ⟨_, rfl⟩
  rw [← hIds, ← hγ] at hout
  rw [← hIds] at hcl
  rw [← hIds, ← hγ]
  -- ids of the caller's objects
  have hsome : ∀ id, id ∈ hs.map (·.1) → ∃ ob, hget hs id = some ob := fun id hid => by
    clear hlt hh hIds ht1 hE1
    induction hs with
    | nil => cases hid
    | cons x hs ih =>
      obtain ⟨u, p⟩ := x
      simp only [hget]
      split
      · exact ⟨p, rfl⟩
      · rename_i hne
        rcases List.mem_cons.1 hid with h | h
        · exact absurd h.symm hne
        · exact ih h
  have hmem : ∀ id ob, hget hs id = some ob → id ∈ hs.map (·.1) := fun id ob h => by
    clear hlt hh hIds ht1 hE1 hsome
    induction hs with
    | nil => cases h
    | cons x hs ih =>
      obtain ⟨u, p⟩ := x
      simp only [hget] at h
      split at h
      · rename_i e; subst e; exact List.mem_cons_self
      · exact List.mem_cons_of_mem _ (ih h)
  have hold : ∀ id, id ∈ hs.map (·.1) → id < nid ∧ kn id ∧ γ id = id := fun id hid => by
    obtain ⟨ob, h⟩ := hsome id hid
    have h2 := (hget_lt hlt id ob h).1
    refine ⟨h2, (hm.objs id ob (hh id ob h)).1, ?_⟩
    rw [hγ]
    exact if_neg (fun hc => by have := hLge id hc; omega)
  have hnew : ∀ id, id ∈ L → nid ≤ γ id ∧ γ id < nid + 4 ∧ γ id = nid + L.idxOf id := fun id hid => by
    have h2 : L.idxOf id < L.length := List.idxOf_lt_length_of_mem hid
    have h3 : γ id = nid + L.idxOf id := by rw [hγ]; exact if_pos hid
    omega
  have hin : ∀ id, id ∈ Ids → id ∈ hs.map (·.1) ∨ id ∈ L := fun id h => by rw [hIds] at h; exact List.mem_append.1 h
  have hinj : ∀ x y, x ∈ Ids → y ∈ Ids → γ x = γ y → x = y := fun x y hx hy e => by
    rcases hin x hx with hx | hx <;> rcases hin y hy with hy | hy
    · rw [← (hold x hx).2.2, ← (hold y hy).2.2, e]
    · have := (hold x hx).1; rw [← (hold x hx).2.2, e] at this; have := (hnew y hy).1; omega
    · have := (hold y hy).1; rw [← (hold y hy).2.2, ← e] at this; have := (hnew x hx).1; omega
    · have h1 := (hnew x hx).2.2
      have h2 := (hnew y hy).2.2
      have h3 : L.idxOf x = L.idxOf y := by omega
      have h4 := List.getElem_idxOf (List.idxOf_lt_length_of_mem hx)
      have h5 := List.getElem_idxOf (List.idxOf_lt_length_of_mem hy)
      rw [← h4, ← h5]
      congr 1
  obtain ⟨ho1, ho2⟩ := outs_get hout hinj
  let pre : Nat → Option Nat := fun x => Ids.find? fun id => γ id == x
  have hpre : ∀ x id, pre x = some id → id ∈ Ids ∧ γ id = x := fun x id h => ⟨List.mem_of_find?_eq_some h, by simpa using List.find?_some h⟩
  have hpre2 : ∀ id, id ∈ Ids → pre (γ id) = some id := fun id h => by
    cases e : pre (γ id) with
    | none => have := List.find?_eq_none.1 e id h; simp at this
    | some id' => obtain ⟨h1, h2⟩ := hpre _ _ e; rw [hinj _ _ h1 h h2]
  have hpre3 : ∀ x, pre x = none → ∀ id ∈ Ids, γ id ≠ x := fun x h id hid e => by
    have := hpre2 id hid
    rw [e, h] at this
    cases this
  let loc' : Locs := fun x => match pre x with
    | some id => loc1 id
    | none => loc x
  have hloc1 : ∀ x id, pre x = some id → loc' x = loc1 id := fun x id h => by show (match pre x with | some id => loc1 id | none => loc x) = _; rw [h]
  have hloc2 : ∀ x, pre x = none → loc' x = loc x := fun x h => by show (match pre x with | some id => loc1 id | none => loc x) = _; rw [h]
  obtain ⟨hg', hhg'⟩ : ∃ g, g = upd h' hg := ⟨_, rfl⟩
  have hg1 : ∀ x id, pre x = some id → ∃ ob, hget h1 id = some ob ∧ hg' x = some (renOb γ ob) := fun x id h => by
    obtain ⟨e1, e2⟩ := hpre x id h
    obtain ⟨ob, k1, k2⟩ := ho1 id e1
    exact ⟨ob, k1, by rw [hhg', upd_hget, ← e2, k2]⟩
  have hg2 : ∀ x, pre x = none → hg' x = hg x := fun x h => by rw [hhg', upd_hget, ho2 x (hpre3 x h)]
  have hnotin : ∀ x, pre x = none → hget hs x = none := fun x h => by
    cases e : hget hs x with
    | none => rfl
    | some ob =>
      have h1 := hmem x ob e
      exact absurd (hold x h1).2.2 (hpre3 x h x (by rw [hIds]; exact List.mem_append_left _ h1))
  have hprekn : ∀ x id, kn x → pre x = some id → id = x ∧ x ∈ hs.map (·.1) := fun x id hk h => by
    obtain ⟨e1, e2⟩ := hpre x id h
    rcases hin id e1 with h2 | h2
    · have := (hold id h2).2.2
      rw [e2] at this
      subst this
      exact ⟨rfl, h2⟩
    · obtain ⟨g1, g2, _⟩ := hnew id h2
      rw [e2] at g1 g2
      exact absurd (by rw [show nid + (x - nid) = x by omega]; exact hk) (hn (x - nid) (by omega))
  have hown : ∀ b o, owns hg' loc' b o → owns (hget h1) loc1 b o ∨ ∃ x ob, hg x = some ob ∧ hget hs x = none ∧ (loc x).has b ∧ ob.owns o := fun b o ⟨x, ob, g1, g2, g3⟩ => by
    cases hp : pre x with
    | some id =>
      obtain ⟨ob1, k1, k2⟩ := hg1 x id hp
      rw [k2] at g1
      cases g1
      rw [hloc1 x id hp] at g2
      exact .inl ⟨id, ob1, k1, g2, (renOb_owns γ ob1 o).1 g3⟩
    | none =>
      rw [hg2 x hp] at g1
      rw [hloc2 x hp] at g2
      exact .inr ⟨x, ob, g1, hnotin x hp, g2, g3⟩
  have hC : Cx.le (cxOf E hg loc w) (cxOf E hg' loc' w') := by
    have sub : ∀ b o, ¬ owns hg loc b o → ¬ owns (hget hs) loc b o := fun b o h ⟨id, ob, g1, g2⟩ => h ⟨id, ob, hh id ob g1, g2⟩
    refine ⟨fun b o v h1 h2 => ht1.cx.cell b o v h1 (sub b o h2), fun b o v h1 h2 h3 => ?_, fun _ _ _ _ _ h => h, rfl⟩
    rcases hown b o h3 with h4 | ⟨x, ob, g1, _, g2, g3⟩
    · exact ht1.cx.ow b o v h1 (sub b o h2) h4
    · exact h2 ⟨x, ob, g1, g2, g3⟩
  have hD : Cx.leD (cxOf E1 (hget h1) loc1 w') (cxOf E hg' loc' w') := fun b o v h1 h2 h3 => by
    rw [hE1] at h3
    refine ⟨h1, fun h4 => ?_, fun h4 => h3 (.inl h4)⟩
    rcases hown b o h4 with h5 | h5
    · exact h2 h5
    · exact h3 (.inr h5)
  have hR : RefLe hg hg' loc loc' kn := by
    refine ⟨fun x cs hk hx => ?_, fun x ar hk hx => ?_, fun x T hk hx => ?_⟩
    · cases hp : pre x with
      | some id =>
        obtain ⟨e1, e2⟩ := hprekn x id hk hp
        subst e1
        obtain ⟨ob, k1, k2⟩ := hg1 id id hp
        rw [k2] at hx
        cases ob <;> simp only [renOb, Option.some.injEq, reduceCtorEq] at hx
        obtain ⟨⟨cs0, q1⟩, q2⟩ := ht1.rf.box id _ ⟨hk, (hold id e2).1⟩ k1
        exact ⟨⟨cs0, hh _ _ q1⟩, (hloc1 id id hp).trans q2⟩
      | none => rw [hg2 x hp] at hx; exact ⟨⟨cs, hx⟩, hloc2 x hp⟩
    · cases hp : pre x with
      | some id =>
        obtain ⟨e1, e2⟩ := hprekn x id hk hp
        subst e1
        obtain ⟨ob, k1, k2⟩ := hg1 id id hp
        rw [k2] at hx
        cases ob <;> simp only [renOb, Option.some.injEq, reduceCtorEq] at hx
        cases hx
        obtain ⟨a0, q1, q2, q3⟩ := ht1.rf.arr id _ ⟨hk, (hold id e2).1⟩ k1
        exact ⟨a0, hh _ _ q1, fun hv => ⟨(q2 hv).1, (q2 hv).2.1, (hloc1 id id hp).trans (q2 hv).2.2⟩, q3⟩
      | none => rw [hg2 x hp] at hx; exact ⟨ar, hx, fun _ => ⟨rfl, rfl, hloc2 x hp⟩, Nat.le_refl _⟩
    · cases hp : pre x with
      | some id =>
        obtain ⟨e1, e2⟩ := hprekn x id hk hp
        subst e1
        obtain ⟨ob, k1, k2⟩ := hg1 id id hp
        rw [k2] at hx
        cases ob <;> simp only [renOb, Option.some.injEq, reduceCtorEq] at hx
        cases hx
        obtain ⟨T0, q1, q2⟩ := ht1.rf.tab id _ ⟨hk, (hold id e2).1⟩ k1
        exact ⟨T0, hh _ _ q1, by rw [hloc1 id id hp]; exact q2⟩
      | none => rw [hg2 x hp] at hx; exact ⟨T, hx, by rw [hloc2 x hp]; exact .refl _ _⟩
  have hkn : ∀ id, id ∈ Ids → kn (γ id) ∨ (nid ≤ γ id ∧ γ id < nid + 4) := fun id hid => by
    rcases hin id hid with h | h
    · rw [(hold id h).2.2]; exact .inl (hold id h).2.1
    · exact .inr ⟨(hnew id h).1, (hnew id h).2.1⟩
  have hren : ∀ (p : PV) (v : Value), refsIn (fun id => id ∈ Ids) False p → PRep (cxOf E1 (hget h1) loc1 w') (hget h1) loc1 k1 p v → PRep (cxOf E hg' loc' w') hg' loc' (fun id => kn id ∨ (nid ≤ id ∧ id < nid + 4)) (ren γ p) v := fun p v hp hr =>
    PRep.ren hD (fun h => h.elim) (fun id _ hs => hkn id hs) (fun id _ hs ob' ho => by
      obtain ⟨ob, q1, q2⟩ := hg1 _ id (hpre2 id hs)
      rw [q2] at ho
      cases ho
      exact ⟨ob, q1, sim_ren γ ob, hloc1 _ id (hpre2 id hs)⟩) hr hp
  have hw0 : E.w0.heap.size ≤ w.heap.size := hm.ext.size
  have hE0 : E1.w0 = E.w0 := by rw [hE1]
  have unowned : ∀ x b, pre x = none → hg x ≠ none → (loc x).has b → ¬ ∃ i, hget hs i ≠ none ∧ (loc i).has b := fun x b hp hx hb ⟨i, h1, h2⟩ => by
    obtain ⟨ob, hob⟩ := Option.ne_none_iff_exists'.1 h1
    have := hm.sep x i b hx (by simp [hh _ _ hob]) hb h2
    subst this
    exact h1 (hnotin x hp)
  refine ⟨loc', fun id => kn id ∨ (nid ≤ id ∧ id < nid + 4), ?_, fun _ h => h, by rw [← hhg']; exact hren⟩
  rw [← hhg']
  refine ⟨⟨by have := hm1.ext; rw [hE0] at this; exact this, fun b o ha => Nat.lt_of_lt_of_le (hm.amlt b o ha) ht1.sz, fun x ob hx => ?_, fun x y b hx hy hbx hby => ?_, fun x b hx hb => ?_, fun x b o hx hb ha => ?_⟩, hC, hR, fun _ h => .inl h, ht1.sz,
    fun b hb hno => ht1.blk b hb (fun ⟨i, h1, h2⟩ => hno (by obtain ⟨ob, hob⟩ := Option.ne_none_iff_exists'.1 h1; exact ⟨i, by simp [hh _ _ hob], h2⟩)) (fun h => h), fun x b hx hb => ?_⟩
  · cases hp : pre x with
    | some id =>
      obtain ⟨ob1, q1, q2⟩ := hg1 x id hp
      obtain ⟨e1, e2⟩ := hpre x id hp
      rw [q2] at hx
      cases hx
      refine ⟨by rw [← e2]; exact hkn id e1, ?_⟩
      rw [hloc1 x id hp]
      have hA := (hm1.objs id ob1 q1).2
      cases ob1 with
      | arr ar => exact ⟨hA.1, ArrAt.leD hD (fun _ _ => rfl) hA.2⟩
      | tab T => exact TabAt.leD hD (fun _ _ => rfl) hA
      | dead => exact hA
      | box cs =>
        have hA : BoxAt _ _ _ _ cs (loc1 id) := hA
        show BoxAt _ _ _ _ (rens γ cs) (loc1 id)
        have hrs := clH_get hcl id e1 cs q1
        cases hl : loc1 id with
        | no => rw [hl] at hA; exact hA
        | tb lo rl => rw [hl] at hA; exact hA
        | pl b cap =>
          rw [hl] at hA
          obtain ⟨c, e, k1, k2, k3⟩ := hA
          refine ⟨c, e, k1, by rw [rens_map, List.length_map]; exact k2, fun j p hj => ?_⟩
          rw [rens_map, List.getElem?_map] at hj
          obtain ⟨q, hq, rfl⟩ := Option.map_eq_some_iff.1 hj
          obtain ⟨u, k4, k5, k6⟩ := k3 j q hq
          exact ⟨u, k4, k5, hren q u (refsIns_get hrs j q hq) k6⟩
    | none =>
      have hx0 := hx
      rw [hg2 x hp] at hx
      obtain ⟨q1, q2⟩ := hm.objs x ob hx
      refine ⟨.inl q1, ?_⟩
      rw [hloc2 x hp]
      exact q2.le hC hR (fun _ h => .inl h) (fun b hb => ht1.blk b (hm.fresh x b (by simp [hx]) hb).2 (unowned x b hp (by simp [hx]) hb) (fun h => h))
  · cases hpx : pre x with
    | some id =>
      obtain ⟨ob1, q1, _⟩ := hg1 x id hpx
      rw [hloc1 x id hpx] at hbx
      cases hpy : pre y with
      | some id' =>
        obtain ⟨ob2, r1, _⟩ := hg1 y id' hpy
        rw [hloc1 y id' hpy] at hby
        have := hm1.sep id id' b (by simp [q1]) (by simp [r1]) hbx hby
        subst this
        rw [← (hpre x id hpx).2, ← (hpre y id hpy).2]
      | none =>
        rw [hg2 y hpy] at hy
        rw [hloc2 y hpy] at hby
        rcases ht1.own id b (by simp [q1]) hbx with h | h
        · exact absurd h (unowned y b hpy hy hby)
        · have := (hm.fresh y b hy hby).2
          omega
    | none =>
      rw [hg2 x hpx] at hx
      rw [hloc2 x hpx] at hbx
      cases hpy : pre y with
      | some id' =>
        obtain ⟨ob2, r1, _⟩ := hg1 y id' hpy
        rw [hloc1 y id' hpy] at hby
        rcases ht1.own id' b (by simp [r1]) hby with h | h
        · exact absurd h (unowned x b hpx hx hbx)
        · have := (hm.fresh x b hx hbx).2
          omega
      | none =>
        rw [hg2 y hpy] at hy
        rw [hloc2 y hpy] at hby
        exact hm.sep x y b hx hy hbx hby
  · cases hp : pre x with
    | some id =>
      obtain ⟨ob1, q1, _⟩ := hg1 x id hp
      rw [hloc1 x id hp] at hb
      have := hm1.fresh id b (by simp [q1]) hb
      rw [hE0] at this
      exact this
    | none =>
      rw [hg2 x hp] at hx
      rw [hloc2 x hp] at hb
      obtain ⟨g1, g2⟩ := hm.fresh x b hx hb
      exact ⟨g1, Nat.lt_of_lt_of_le g2 ht1.sz⟩
  · cases hp : pre x with
    | some id =>
      obtain ⟨ob1, q1, _⟩ := hg1 x id hp
      rw [hloc1 x id hp] at hb
      refine hm1.amno id b o (by simp [q1]) hb ?_
      rw [hE1]
      exact .inl ha
    | none =>
      rw [hg2 x hp] at hx
      rw [hloc2 x hp] at hb
      exact hm.amno x b o hx hb ha
  · cases hp : pre x with
    | some id =>
      obtain ⟨ob1, q1, _⟩ := hg1 x id hp
      rw [hloc1 x id hp] at hb
      rcases ht1.own id b (by simp [q1]) hb with ⟨i, h1, h2⟩ | h
      · obtain ⟨ob, hob⟩ := Option.ne_none_iff_exists'.1 h1
        exact .inl ⟨i, by simp [hh _ _ hob], h2⟩
      · exact .inr h
    | none =>
      rw [hg2 x hp] at hx
      rw [hloc2 x hp] at hb
      exact .inl ⟨x, hx, hb⟩

/-- A CONTRACT OVER OBJECTS, out of its body's condition -/
theorem hcallS_of {f : FuncId} {fn : Func} {c : Code} {args : List PV} {hs : Heap} {nid : Nat} {L : List Nat} {r : PV} {h' : Heap} (hf : P.funcs[f]? = some fn) (hb : fn.body = some c) (hname : (fn.name == "runtime.NumGoroutine") = false) (hargs : args.length ≤ fn.ntmps)
    (hlt : heapLt nid hs) (hal : refsLts nid args) (h : SC P false noM.Y c (retHK P fn (hs.map (·.1)) nid L r h') ⟨fn.ntmps, argSlots 0 args, hs, nid⟩) : HCall P f args hs nid r h' where
  enters as w := by
    have h1 : fn.name ≠ "runtime.NumGoroutine" := by simpa using hname
    simp [callFunc, hf, h1, hb]
  calls E hg loc kn w vs hm hh hn hl hrep := by
    obtain ⟨hm1, hC1⟩ := hm.part hh hlt
    obtain ⟨E1, hE1⟩ : ∃ E1 : Env, E1 = ⟨E.w0, fun b o => E.am b o ∨ ∃ id ob, hg id = some ob ∧ hget hs id = none ∧ (loc id).has b ∧ ob.owns o, E.y⟩ := ⟨_, rfl⟩
    rw [← hE1] at hm1 hC1
    let Φ : Fr := ⟨fun _ => False, hget hs, loc, fun id => kn id ∧ id < nid, w, nid, fun _ => none⟩
    have hci : CI E1 Φ ⟨fn.ntmps, argSlots 0 args, hs, nid⟩ loc (fun id => kn id ∧ id < nid) { tmps := vs ++ Array.replicate (fn.ntmps - vs.size) undef, defers := [] } w :=
      ⟨⟨hm1, args_slots hl (fun j p v h1 h2 => (hrep j p v h1 h2).sub hC1 hh (refsLts_get hal j p h1)) [], by simp; omega, fun id h => h.2⟩, ⟨⟨.refl _, .refl _ _ _, fun _ h => h, Nat.le_refl _, fun _ _ _ _ => rfl, fun id b h1 h2 => .inl ⟨id, h1, h2⟩⟩, fun b o hb => (by cases hb), fun id h => h.2, fun b o hb => (by cases hb), by rw [hE1]; exact hm.ext.size⟩, Nat.le_refl _, .nil _ _⟩
    refine body_calls hf hb h hci (fun e τ hk => ?_) (fun e a' τ l k w' h1 h2 h3 => ?_)
    · cases e <;> first | exact .inl rfl | exact .inr rfl | exact hk.elim
    have fin : RetH P fn (hs.map (·.1)) nid L r h' τ → ∃ v, (results fn a'.tmps).run P w' = .ok v w' ∧ ∃ v' loc' kn', Ending.returned v = .returned v' ∧ Tr E hg loc kn w (upd h' hg) loc' kn' w' ∧ PRep (cxOf E (upd h' hg) loc' w') (upd h' hg) loc' kn' r v' ∧ ∀ id, kn' id → kn id ∨ (nid ≤ id ∧ id < nid + 4) := fun hr => by
      obtain ⟨ps, hps, hr⟩ := got_spec hr
      obtain ⟨o, ho, ⟨q1, q3, q4, q5⟩, rfl, rfl⟩ := got_spec hr
      obtain ⟨vs', g1, g2, g3⟩ := results_run h2 hps
      obtain ⟨loc', kn', ht, hk, hret⟩ := call_back hm hn hh hlt hE1 h2.mc h3.tr q1 q3 ho q5
      refine ⟨_, g1, _, loc', kn', rfl, ht, hret _ _ q4 ?_, hk⟩
      by_cases hv1 : vs'.length = 1
      · rw [if_pos hv1]
        have hpl : ps.length = 1 := g2.symm.trans hv1
        match ps, vs', hpl, hv1 with
        | [p], [v], _, _ => exact g3 0 p v rfl rfl
      · rw [if_neg hv1]
        have e : retOf ps = .tup ps := by
          match ps, g2 with
          | [], _ => rfl
          | [p], g2 => exact absurd g2 hv1
          | _ :: _ :: _, _ => rfl
        rw [e]
        exact .tup (by simp [g2]) (fun j p v h1 h2 => g3 j p v h1 (by simpa using h2))
    cases e with
    | ret => exact fin h1
    | normal => exact fin h1
    | _ => exact h1.elim
theorem hcall_of (hmo : P.follows .mixedOrders = true) {f : FuncId} {fn : Func} {c : Code} {args : List PV} {hs : Heap} {nid : Nat} {L : List Nat} {r : PV} {h' : Heap} (hf : P.funcs[f]? = some fn) (hb : fn.body = some c) (hname : (fn.name == "runtime.NumGoroutine") = false) (hargs : args.length ≤ fn.ntmps)
    (hlt : heapLt nid hs) (hal : refsLts nid args) (h : vc P (fnM P) c (retHK P fn (hs.map (·.1)) nid L r h') ⟨fn.ntmps, argSlots 0 args, hs, nid⟩) : HCall P f args hs nid r h' := hcallS_of hf hb hname hargs hlt hal (.of_fn hmo h)
end
end Go.Pm
/-
  The pure machine, part 14: rules by which simp runs it.
-/
set_option linter.unusedSimpArgs false
set_option linter.unusedVariables false
namespace Go.Pm
section
variable {P : Program} {M : Md} {m n nid : Nat} {t : Slots} {h : Heap} {K : Exit → St → Prop} {k k1 k2 : St → Prop} {L : Kt}
@[go_sem] theorem vc_skip : vc P M .skip K ⟨m, t, h, n⟩ = K .normal ⟨m, t, h, n⟩ := rfl
@[go_sem] theorem vc_region {id : Nat} {ops : Array Oper} : vc P M (.region id ops false) K ⟨m, t, h, n⟩ = vcOps P M ops ops.toList 0 [] (fun τ _ => K .normal (bump τ ops.size)) ⟨m, t, h, n⟩ := rfl
@[go_sem] theorem vc_draw {id : Nat} {ops : Array Oper} : vc P M (.region id ops true) K ⟨m, t, h, n⟩ = vcOps P noM ops ops.toList 0 [] (fun τ log => Side (raceOk ops log = true) (bump τ ops.size) (K .normal)) ⟨m, t, h, n⟩ := rfl
@[go_sem] theorem vc_range {g : Operand} {ps : Array Tmp} {x y : Code} : vc P (fnM P) (.rangeFunc g ps x y) K ⟨m, t, h, n⟩ = RangeV P g ps x y K ⟨m, t, h, n⟩ := rfl
@[go_sem] theorem vc_seq {x y : Code} : vc P M (.seq x y) K ⟨m, t, h, n⟩ = vc P M x (seqK (vc P M y K) K) ⟨m, t, h, n⟩ := rfl
@[go_sem] theorem vc_cond {c : Operand} {x y : Code} : vc P M (.cond c x y) K ⟨m, t, h, n⟩ = CondS (ev t c) ⟨m, t, h, n⟩ (vc P M x K) (vc P M y K) := rfl
@[go_sem] theorem vc_block {id : Nat} {b : Code} : vc P M (.block id b) K ⟨m, t, h, n⟩ = vc P M b (blockK id K) ⟨m, t, h, n⟩ := rfl
@[go_sem] theorem vc_exit {id : Nat} : vc P M (.exit id) K ⟨m, t, h, n⟩ = K (.exit id) ⟨m, t, h, n⟩ := rfl
@[go_sem] theorem vc_scope {b : Code} : vc P M (.scope b) K ⟨m, t, h, n⟩ = vc P M b (scopeK K) ⟨m, t, h, n⟩ := rfl
@[go_sem] theorem vc_label {l : Nat} : vc P M (.label l) K ⟨m, t, h, n⟩ = K .normal ⟨m, t, h, n⟩ := rfl
@[go_sem] theorem vc_ret : vc P M .ret K ⟨m, t, h, n⟩ = K .ret ⟨m, t, h, n⟩ := rfl
@[go_sem] theorem seqK_normal : seqK k K .normal ⟨m, t, h, n⟩ = k ⟨m, t, h, n⟩ := rfl
@[go_sem] theorem seqK_exit {i : Nat} : seqK k K (.exit i) ⟨m, t, h, n⟩ = K (.exit i) ⟨m, t, h, n⟩ := rfl
@[go_sem] theorem seqK_ret : seqK k K .ret ⟨m, t, h, n⟩ = K .ret ⟨m, t, h, n⟩ := rfl
@[go_sem] theorem blockK_normal {id : Nat} : blockK id K .normal ⟨m, t, h, n⟩ = K .normal ⟨m, t, h, n⟩ := rfl
@[go_sem] theorem blockK_exit {id i : Nat} : blockK id K (.exit i) ⟨m, t, h, n⟩ = if i = id then K .normal ⟨m, t, h, n⟩ else K (.exit i) ⟨m, t, h, n⟩ := rfl
@[go_sem] theorem blockK_ret {id : Nat} : blockK id K .ret ⟨m, t, h, n⟩ = K .ret ⟨m, t, h, n⟩ := rfl
@[go_sem] theorem scopeK_normal : scopeK K .normal ⟨m, t, h, n⟩ = K .normal ⟨m, t, h, n⟩ := rfl
@[go_sem] theorem scopeK_exit {i : Nat} : scopeK K (.exit i) ⟨m, t, h, n⟩ = K (.exit i) ⟨m, t, h, n⟩ := rfl
@[go_sem] theorem scopeK_ret : scopeK K .ret ⟨m, t, h, n⟩ = K .ret ⟨m, t, h, n⟩ := rfl
@[go_sem] theorem loopK_normal {α : Type} {inv : α → St} {φ : α → Prop} {μ : α → Nat} {x : α} : loopK inv φ μ x K .normal ⟨m, t, h, n⟩ = ∃ y, φ y ∧ μ y < μ x ∧ Sub (inv y) ⟨m, t, h, n⟩ := rfl
@[go_sem] theorem loopK_exit {α : Type} {inv : α → St} {φ : α → Prop} {μ : α → Nat} {x : α} {i : Nat} : loopK inv φ μ x K (.exit i) ⟨m, t, h, n⟩ = K (.exit i) ⟨m, t, h, n⟩ := rfl
@[go_sem] theorem loopK_ret {α : Type} {inv : α → St} {φ : α → Prop} {μ : α → Nat} {x : α} : loopK inv φ μ x K .ret ⟨m, t, h, n⟩ = K .ret ⟨m, t, h, n⟩ := rfl
@[go_sem] theorem retK_ret {fn : Func} {r : R} : retK P fn r .ret ⟨m, t, h, n⟩ = RetS P fn r ⟨m, t, h, n⟩ := rfl
@[go_sem] theorem retK_normal {fn : Func} {r : R} : retK P fn r .normal ⟨m, t, h, n⟩ = RetS P fn r ⟨m, t, h, n⟩ := rfl
@[go_sem] theorem condS_bool {b : Bool} : CondS (.d (.v (.bool b))) ⟨m, t, h, n⟩ k1 k2 = IfB b ⟨m, t, h, n⟩ k1 k2 := rfl
@[go_sem] theorem ifB_true : IfB true ⟨m, t, h, n⟩ k1 k2 = k1 ⟨m, t, h, n⟩ := by simp [IfB]
@[go_sem] theorem ifB_false : IfB false ⟨m, t, h, n⟩ k1 k2 = k2 ⟨m, t, h, n⟩ := by simp [IfB]
@[go_sem] theorem side_eq {p : Prop} : Side p ⟨m, t, h, n⟩ k = (p ∧ k ⟨m, t, h, n⟩) := rfl
@[go_sem] theorem got_some {α : Type} {x : α} {q : St → α → Prop} : Got (some x) ⟨m, t, h, n⟩ q = q ⟨m, t, h, n⟩ x := rfl
@[go_sem] theorem vcOps_nil {ops : Array Oper} {i : Nat} {log : Log} {kk : St → Log → Prop} : vcOps P M ops [] i log kk ⟨m, t, h, n⟩ = kk ⟨m, t, h, n⟩ log := rfl
@[go_sem] theorem vcOps_cons {ops : Array Oper} {i : Nat} {log : Log} {kk : St → Log → Prop} {o : Oper} {os : List Oper} : vcOps P M ops (o :: os) i log kk ⟨m, t, h, n⟩ = Side (dstOk m o.dst) ⟨m, t, h, n⟩ fun σ => guardV ops o.guard σ
      (fun σ => opY P M o (σ.n + 4 * i) σ fun σ r U Rd => vcOps P M ops os (i + 1) (log ++ [(Rd, U.map (·.1))]) kk (stepS σ o.dst r U))
      (fun σ => vcOps P M ops os (i + 1) (log ++ [([], [])]) kk (stepS σ o.dst (.d (.v undef)) [])) := rfl
@[go_sem] theorem opY_noM {o : Oper} : opY P noM o nid ⟨m, t, h, n⟩ L = match yieldOf o ⟨m, t, h, n⟩ with
    | some _ => False
    | none => vcOp P o nid ⟨m, t, h, n⟩ L := by unfold opY; generalize yieldOf o _ = y; cases y <;> rfl
@[go_sem] theorem opY_fn {o : Oper} : opY P (fnM P) o nid ⟨m, t, h, n⟩ L = match yieldOf o ⟨m, t, h, n⟩ with
    | some _ => False
    | none => vcOp P o nid ⟨m, t, h, n⟩ L := by unfold opY; generalize yieldOf o _ = y; cases y <;> rfl
@[go_sem] theorem opY_it {Y : List PV → St → (St → Bool → Prop) → Prop} {o : Oper} {R : Operand → Array Tmp → Code → Code → (Exit → St → Prop) → St → Prop} : opY P ⟨Y, R⟩ o nid ⟨m, t, h, n⟩ L = match yieldOf o ⟨m, t, h, n⟩ with
    | some as => Y as ⟨m, t, h, nid⟩ fun σ' b => L σ' (boolP b) [] []
    | none => vcOp P o nid ⟨m, t, h, n⟩ L := by unfold opY; rfl
@[go_sem] theorem roundY_eq {σ0 : St} {ps : Array Tmp} {x y : Code} {as : List PV} {q : St → Bool → Prop} : roundY P σ0 ps x y as ⟨m, t, h, n⟩ q = ((as.length = ps.size ∧ allLt σ0.m ps.toList) ∧ vc P noM x (asgK (vc P noM y (rndK ⟨m, t, h, n⟩ q))) ⟨σ0.m, zipS ps.toList as σ0.t, h, n⟩) := rfl
@[go_sem] theorem asgK_normal {q : St → Prop} : asgK q .normal ⟨m, t, h, n⟩ = q ⟨m, t, h, n⟩ := rfl
@[go_sem] theorem rndK_normal {τ : St} {q : St → Bool → Prop} : rndK τ q .normal ⟨m, t, h, n⟩ = q ⟨τ.m, τ.t, h, n⟩ true := rfl
@[go_sem] theorem itK_normal {τ : St} : itK τ K .normal ⟨m, t, h, n⟩ = (noYH h ∧ K .normal ⟨τ.m, τ.t, h, n⟩) := rfl
@[go_sem] theorem itK_ret {τ : St} : itK τ K .ret ⟨m, t, h, n⟩ = (noYH h ∧ K .normal ⟨τ.m, τ.t, h, n⟩) := rfl
@[go_sem] theorem retHK_ret {fn : Func} {ids : List Nat} {nid' : Nat} {l : List Nat} {r : PV} {h' : Heap} : retHK P fn ids nid' l r h' .ret ⟨m, t, h, n⟩ = RetH P fn ids nid' l r h' ⟨m, t, h, n⟩ := rfl
@[go_sem] theorem retHK_normal {fn : Func} {ids : List Nat} {nid' : Nat} {l : List Nat} {r : PV} {h' : Heap} : retHK P fn ids nid' l r h' .normal ⟨m, t, h, n⟩ = RetH P fn ids nid' l r h' ⟨m, t, h, n⟩ := rfl
@[go_sem] theorem dstOk_some {d : Nat} : dstOk m (some d) = (d < m) := rfl
@[go_sem] theorem dstOk_none : dstOk m none = True := rfl
@[go_sem] theorem guardV_none {ops : Array Oper} : guardV ops none ⟨m, t, h, n⟩ k1 k2 = k1 ⟨m, t, h, n⟩ := rfl
@[go_sem] theorem guardV_some {ops : Array Oper} {j : Nat} {want : Bool} : guardV ops (some (j, want)) ⟨m, t, h, n⟩ k1 k2 = match (ops[j]?).bind (·.dst) with
    | some d => match get t d with
      | .d (.v (.bool c)) => IfB (c == want) ⟨m, t, h, n⟩ k1 k2
      | .d (.v (.tuple _)) => k2 ⟨m, t, h, n⟩
      | _ => False
    | none => False := rfl
@[go_sem] theorem stepS_some {d : Nat} {r : PV} {U : Heap} : stepS ⟨m, t, h, n⟩ (some d) r U = ⟨m, (d, r) :: t, U ++ h, n⟩ := rfl
@[go_sem] theorem stepS_none {r : PV} {U : Heap} : stepS ⟨m, t, h, n⟩ none r U = ⟨m, t, U ++ h, n⟩ := rfl
@[go_sem] theorem bump_eq {i : Nat} : bump ⟨m, t, h, n⟩ i = ⟨m, t, h, n + 4 * i⟩ := rfl
attribute [go_sem] get hget ev zPV zD cellsP D.one PV.one allOne mk splice fillP tabIf dz dzs d0 d0s d1 fz fzs f0 f0s f1 frz dcells a1 a1s a2 a2s g1 g1s g2 g2s r1 r1s r2 r2s adopt adopt1 adoptL R.list intP boolP arith slcT trunc truncT convV els lenOf fa R1.plain R.plain bound loadV storeV idxV appV callV RetS retPV retPVs retIs retsIs ownId ownIds frIds apart argSlots zipS allLt noYd noYs noYT noYH yieldOf RangeV hasH litT copyV maxL maxL.maxG CallB CallP CallH RetH retOf outs clH gam ren rens renOb refsIn refsIns subT subH slotsLt heapLt refsLt refsLts Sub ghost ghosts
section
variable {e : TypeId} {k : IntKind} {a b : Int} {p q : Bool} {qq : St → PV → Prop}
/-- operations on bits -/
def bAnd (k : IntKind) (a b : Int) : Int := k.wrap (BitVec.ofInt k.bits a &&& BitVec.ofInt k.bits b).toNat
def bOr (k : IntKind) (a b : Int) : Int := k.wrap (BitVec.ofInt k.bits a ||| BitVec.ofInt k.bits b).toNat
def bXor (k : IntKind) (a b : Int) : Int := k.wrap (BitVec.ofInt k.bits a ^^^ BitVec.ofInt k.bits b).toNat
def bNot (k : IntKind) (a : Int) : Int := k.wrap (BitVec.ofInt k.bits (if k.signed then -1 else k.max) ^^^ BitVec.ofInt k.bits a).toNat
@[go_sem] theorem bin_add : binV P .add e (.d (.v (.int k a))) (.d (.v (.int k b))) ⟨m, t, h, n⟩ qq = arith k (a + b) ⟨m, t, h, n⟩ qq := by simp [binV, Side]
@[go_sem] theorem bin_sub : binV P .sub e (.d (.v (.int k a))) (.d (.v (.int k b))) ⟨m, t, h, n⟩ qq = arith k (a - b) ⟨m, t, h, n⟩ qq := by simp [binV, Side]
@[go_sem] theorem bin_mul : binV P .mul e (.d (.v (.int k a))) (.d (.v (.int k b))) ⟨m, t, h, n⟩ qq = arith k (a * b) ⟨m, t, h, n⟩ qq := by simp [binV, Side]
@[go_sem] theorem bin_quo : binV P .quo e (.d (.v (.int k a))) (.d (.v (.int k b))) ⟨m, t, h, n⟩ qq = (b ≠ 0 ∧ arith k (a.tdiv b) ⟨m, t, h, n⟩ qq) := by simp [binV, Side]
@[go_sem] theorem bin_rem : binV P .rem e (.d (.v (.int k a))) (.d (.v (.int k b))) ⟨m, t, h, n⟩ qq = (b ≠ 0 ∧ qq ⟨m, t, h, n⟩ (intP k (a.tmod b))) := by simp [binV, Side]
@[go_sem] theorem bin_and : binV P .and e (.d (.v (.int k a))) (.d (.v (.int k b))) ⟨m, t, h, n⟩ qq = qq ⟨m, t, h, n⟩ (intP k (bAnd k a b)) := by simp [binV, Side, bAnd]
@[go_sem] theorem bin_or : binV P .or e (.d (.v (.int k a))) (.d (.v (.int k b))) ⟨m, t, h, n⟩ qq = qq ⟨m, t, h, n⟩ (intP k (bOr k a b)) := by simp [binV, Side, bOr]
@[go_sem] theorem bin_xor : binV P .xor e (.d (.v (.int k a))) (.d (.v (.int k b))) ⟨m, t, h, n⟩ qq = qq ⟨m, t, h, n⟩ (intP k (bXor k a b)) := by simp [binV, Side, bXor]
@[go_sem] theorem bin_shl {k' : IntKind} : binV P .shl e (.d (.v (.int k a))) (.d (.v (.int k' b))) ⟨m, t, h, n⟩ qq = (0 ≤ b ∧ qq ⟨m, t, h, n⟩ (intP k (k.wrap (a * 2 ^ min b.toNat k.bits)))) := by simp [binV, Side]
@[go_sem] theorem bin_shr {k' : IntKind} : binV P .shr e (.d (.v (.int k a))) (.d (.v (.int k' b))) ⟨m, t, h, n⟩ qq = (0 ≤ b ∧ qq ⟨m, t, h, n⟩ (intP k (a.fdiv (2 ^ min b.toNat k.bits)))) := by simp [binV, Side]
@[go_sem] theorem bin_eql : binV P .eql e (.d (.v (.int k a))) (.d (.v (.int k b))) ⟨m, t, h, n⟩ qq = qq ⟨m, t, h, n⟩ (boolP (decide (a = b))) := by simp [binV, Side]
@[go_sem] theorem bin_neq : binV P .neq e (.d (.v (.int k a))) (.d (.v (.int k b))) ⟨m, t, h, n⟩ qq = qq ⟨m, t, h, n⟩ (boolP (decide (a ≠ b))) := by simp [binV, Side]
@[go_sem] theorem bin_lss : binV P .lss e (.d (.v (.int k a))) (.d (.v (.int k b))) ⟨m, t, h, n⟩ qq = qq ⟨m, t, h, n⟩ (boolP (decide (a < b))) := by simp [binV, Side]
@[go_sem] theorem bin_leq : binV P .leq e (.d (.v (.int k a))) (.d (.v (.int k b))) ⟨m, t, h, n⟩ qq = qq ⟨m, t, h, n⟩ (boolP (decide (a ≤ b))) := by simp [binV, Side]
@[go_sem] theorem bin_gtr : binV P .gtr e (.d (.v (.int k a))) (.d (.v (.int k b))) ⟨m, t, h, n⟩ qq = qq ⟨m, t, h, n⟩ (boolP (decide (b < a))) := by simp [binV, Side]
@[go_sem] theorem bin_geq : binV P .geq e (.d (.v (.int k a))) (.d (.v (.int k b))) ⟨m, t, h, n⟩ qq = qq ⟨m, t, h, n⟩ (boolP (decide (b ≤ a))) := by simp [binV, Side]
@[go_sem] theorem bin_beq : binV P .eql e (.d (.v (.bool p))) (.d (.v (.bool q))) ⟨m, t, h, n⟩ qq = (isBool P e = true ∧ qq ⟨m, t, h, n⟩ (boolP (p == q))) := by simp [binV, Side]
@[go_sem] theorem bin_bne : binV P .neq e (.d (.v (.bool p))) (.d (.v (.bool q))) ⟨m, t, h, n⟩ qq = (isBool P e = true ∧ qq ⟨m, t, h, n⟩ (boolP (p != q))) := by simp [binV, Side]
@[go_sem] theorem bin_nil {x : List D} {xs : List (List D)} : binV P .eql e (.d (.sl (x :: xs))) .nl ⟨m, t, h, n⟩ qq = (slcT P e = true ∧ qq ⟨m, t, h, n⟩ (boolP false)) := by simp [binV, Side]
@[go_sem] theorem bin_nnil {x : List D} {xs : List (List D)} : binV P .neq e (.d (.sl (x :: xs))) .nl ⟨m, t, h, n⟩ qq = (slcT P e = true ∧ qq ⟨m, t, h, n⟩ (boolP true)) := by simp [binV, Side]
@[go_sem] theorem un_not : unV .not (.d (.v (.bool p))) ⟨m, t, h, n⟩ qq = qq ⟨m, t, h, n⟩ (boolP (!p)) := by simp [unV]
@[go_sem] theorem un_neg : unV .neg (.d (.v (.int k a))) ⟨m, t, h, n⟩ qq = arith k (0 - a) ⟨m, t, h, n⟩ qq := by simp [unV]
@[go_sem] theorem un_xor : unV .xor (.d (.v (.int k a))) ⟨m, t, h, n⟩ qq = qq ⟨m, t, h, n⟩ (intP k (bNot k a)) := by simp [unV, bNot]
end
section
variable {d : Option Tmp} {ty : TypeId} {pos : String} {af : Array Edge} {g : Option (Nat × Bool)}
@[go_sem] theorem op_move {x : Operand} : vcOp P ⟨d, .move x, ty, pos, af, g⟩ nid ⟨m, t, h, n⟩ L = L ⟨m, t, h, n⟩ (ev t x) [] [] := rfl
@[go_sem] theorem op_assign {x : Operand} : vcOp P ⟨d, .assign x, ty, pos, af, g⟩ nid ⟨m, t, h, n⟩ L = L ⟨m, t, h, n⟩ (ev t x) [] [] := rfl
@[go_sem] theorem op_pick {c x y : Operand} : vcOp P ⟨d, .pick c x y, ty, pos, af, g⟩ nid ⟨m, t, h, n⟩ L = match ev t c with
    | .d (.v (.bool c)) => IfB c ⟨m, t, h, n⟩ (fun σ => L σ (ev σ.t x) [] []) (fun σ => L σ (ev σ.t y) [] [])
    | _ => False := rfl
@[go_sem] theorem op_extract {x : Operand} {i : Nat} : vcOp P ⟨d, .extract x i, ty, pos, af, g⟩ nid ⟨m, t, h, n⟩ L = match ev t x with
    | .tup vs => Side (i < vs.length) ⟨m, t, h, n⟩ fun σ => L σ (vs.getD i .any) [] []
    | _ => False := rfl
@[go_sem] theorem op_alloc {e : TypeId} : vcOp P ⟨d, .alloc e, ty, pos, af, g⟩ nid ⟨m, t, h, n⟩ L = Got (TY P e) ⟨m, t, h, n⟩ fun σ T => Side (allOne (T.zero.map zPV)) σ fun σ => L σ (.pr nid 0 0 0) [(nid, .box (T.zero.map zPV))] [] := rfl
@[go_sem] theorem op_box {e : TypeId} {x : Operand} : vcOp P ⟨d, .box e x, ty, pos, af, g⟩ nid ⟨m, t, h, n⟩ L = Side (allOne (cellsP (ev t x))) ⟨m, t, h, n⟩ fun σ => L σ (.pr nid 0 0 0) [(nid, .box (cellsP (ev σ.t x)))] [] := rfl
@[go_sem] theorem op_build {e : TypeId} {parts : Array (Nat × Operand)} : vcOp P ⟨d, .build e parts, ty, pos, af, g⟩ nid ⟨m, t, h, n⟩ L = Got (TY P e) ⟨m, t, h, n⟩ fun σ T => Side (T.agg = true ∧ allOne ((parts.toList.map fun p => ev σ.t p.2).flatMap cellsP)) σ fun σ => Got (plcs P T) σ fun σ pl => Got (fillP pl (parts.toList.map fun p => (p.1, ev σ.t p.2)) (T.zero.map zPV)) σ fun σ cs => L σ (.agg cs) [] [] := rfl
@[go_sem] theorem op_buildSlice {e : TypeId} {len : Nat} {parts : Array (Nat × Operand)} : vcOp P ⟨d, .buildSlice e len parts, ty, pos, af, g⟩ nid ⟨m, t, h, n⟩ L = Got (TY P e) ⟨m, t, h, n⟩ fun σ T => Got (TY P T.elem) σ fun σ E => if litT E = true ∧ 0 < len then
        Side (T.slc = true ∧ parts.toList.map (·.1) = List.range len ∧ E.size = 1 ∧ E.zero.length = 1 ∧ len ≤ 16777216 ∧ ∀ p ∈ parts.toList, (cellsP (ev σ.t p.2)) = [ev σ.t p.2] ∧ (ev σ.t p.2).one) σ fun σ => L σ (.lt (parts.toList.map fun p => ev σ.t p.2)) [] []
      else Got (d0s (hget σ.h) ((parts.toList.map fun p => ev σ.t p.2).flatMap cellsP)) σ fun σ _ =>
      Side (T.slc = true ∧ parts.toList.map (·.1) = List.range len ∧ 0 < E.size ∧ E.zero.length = E.size ∧ (∀ p ∈ parts.toList, (cellsP (ev σ.t p.2)).length = E.size) ∧ len * E.size ≤ 16777216 ∧ allOne ((parts.toList.map fun p => ev σ.t p.2).flatMap cellsP)) σ fun σ =>
        L σ (.sr nid 0) ((nid, .arr ⟨T.elem, E.size, 0, false, (parts.toList.map fun p => ((d0s (hget σ.h) (cellsP (ev σ.t p.2))).getD []))⟩) :: frz (hget σ.h) (f0s ((parts.toList.map fun p => ev σ.t p.2).flatMap cellsP)))
          (f0s ((parts.toList.map fun p => ev σ.t p.2).flatMap cellsP)) := rfl
@[go_sem] theorem op_load {e : TypeId} {x : Operand} : vcOp P ⟨d, .load e x, ty, pos, af, g⟩ nid ⟨m, t, h, n⟩ L = Got (TY P e) ⟨m, t, h, n⟩ fun σ T => loadV T (ev σ.t x) σ L := rfl
@[go_sem] theorem op_store {e : TypeId} {x y : Operand} : vcOp P ⟨d, .store e x y, ty, pos, af, g⟩ nid ⟨m, t, h, n⟩ L = Got (TY P e) ⟨m, t, h, n⟩ fun σ T => storeV T (ev σ.t x) (ev σ.t y) σ L := rfl
@[go_sem] theorem op_bin {op : BinOp} {e e' : TypeId} {x y : Operand} : vcOp P ⟨d, .binOp op e x y e', ty, pos, af, g⟩ nid ⟨m, t, h, n⟩ L = binV P op e (ev t x) (ev t y) ⟨m, t, h, n⟩ fun σ v => L σ v [] [] := rfl
@[go_sem] theorem op_un {op : UnOp} {e : TypeId} {x : Operand} : vcOp P ⟨d, .unOp op e x, ty, pos, af, g⟩ nid ⟨m, t, h, n⟩ L = unV op (ev t x) ⟨m, t, h, n⟩ fun σ v => L σ v [] [] := rfl
@[go_sem] theorem op_nilCheck {x : Operand} : vcOp P ⟨d, .nilCheck x, ty, pos, af, g⟩ nid ⟨m, t, h, n⟩ L = match ev t x with
    | .pr id ver i off => Got (hget h id) ⟨m, t, h, n⟩ fun σ ob => match ob with
      | .box _ => L σ (.pr id ver i off) [] [id]
      | _ => False
    | .bw cs => L ⟨m, t, h, n⟩ (.bw cs) [] []
    | .lp cs => L ⟨m, t, h, n⟩ (.lp cs) [] []
    | .fn f cs => L ⟨m, t, h, n⟩ (.fn f cs) [] []
    | _ => False := rfl
@[go_sem] theorem op_index {e : TypeId} {x i : Operand} : vcOp P ⟨d, .index e x i, ty, pos, af, g⟩ nid ⟨m, t, h, n⟩ L = match ev t x, ev t i with
    | .d (.v (.string s)), .d (.v (.int _ z)) => Side (isStr P e = true ∧ 0 ≤ z) ⟨m, t, h, n⟩ fun σ => Got (s[z.toNat]?) σ fun σ b => L σ (intP .u8 b.toNat) [] []
    | .agg cs, .d (.v (.int _ z)) => idxA P e cs z ⟨m, t, h, n⟩ L
    | .d (.agg cs), .d (.v (.int _ z)) => idxA P e (cs.map .d) z ⟨m, t, h, n⟩ L
    | _, _ => False := rfl
@[go_sem] theorem op_field {e : TypeId} {x : Operand} {f : Nat} : vcOp P ⟨d, .field e x f, ty, pos, af, g⟩ nid ⟨m, t, h, n⟩ L = Got (aggP (ev t x)) ⟨m, t, h, n⟩ fun σ cs => Got (fldOf P e f) σ fun σ e => Side (e.1 + e.2.size ≤ cs.length ∧ (e.2.agg = false → e.2.size = 1)) σ fun σ => L σ (mk e.2.agg ((cs.drop e.1).take e.2.size)) [] [] := rfl
@[go_sem] theorem idxA_eq {e : TypeId} {cs : List PV} {z : Int} {σ : St} : idxA P e cs z σ L = Got (arrOf P e) σ fun σ e => Side (0 ≤ z ∧ z < e.1 ∧ z.toNat * e.2.size + e.2.size ≤ cs.length ∧ (e.2.agg = false → e.2.size = 1)) σ fun σ => L σ (mk e.2.agg ((cs.drop (z.toNat * e.2.size)).take e.2.size)) [] [] := rfl
@[go_sem] theorem plcs_str {a b c z e f g} : plcs P ⟨a, b, c, z, e, f, false, g⟩ = some f := rfl
@[go_sem] theorem aggP_agg {cs : List PV} : aggP (.agg cs) = some cs := rfl
@[go_sem] theorem aggP_d {cs : List D} : aggP (.d (.agg cs)) = some (cs.map .d) := rfl
@[go_sem] theorem op_conv {e e' : TypeId} {x : Operand} : vcOp P ⟨d, .convert e e' x, ty, pos, af, g⟩ nid ⟨m, t, h, n⟩ L = convV P e e' (ev t x) ⟨m, t, h, n⟩ fun σ v => L σ v [] [] := rfl
@[go_sem] theorem op_makeFunc {f : FuncId} {first caps : Array Operand} : vcOp P ⟨d, .makeFunc (.func f) first caps, ty, pos, af, g⟩ nid ⟨m, t, h, n⟩ L = Side (first.size = 0) ⟨m, t, h, n⟩ fun σ => L σ (.fn f (caps.toList.map (ev σ.t))) [] [] := rfl
@[go_sem] theorem op_makeSlice {e : TypeId} {l c : Operand} : vcOp P ⟨d, .makeSlice e l c, ty, pos, af, g⟩ nid ⟨m, t, h, n⟩ L = match ev t l, ev t c with
    | .d (.v (.int _ n')), .d (.v (.int _ m')) => Got (TY P e) ⟨m, t, h, n⟩ fun σ T => Got (TY P T.elem) σ fun σ E =>
        Side (T.slc = true ∧ 0 < E.size ∧ E.zero.length = E.size ∧ 0 ≤ n' ∧ n' ≤ m' ∧ m' ≤ 9223372036854775807 ∧ (E.bytes : Int) * m' ≤ 140737488355328 ∧ allOne (E.zero.map zPV)) σ fun σ => L σ (.sr nid 0) [(nid, .arr ⟨T.elem, E.size, 0, false, List.replicate n'.toNat (E.zero.map zD)⟩)] []
    | _, _ => False := rfl
@[go_sem] theorem op_fieldAddr {e : TypeId} {x : Operand} {f : Nat} : vcOp P ⟨d, .fieldAddr e x f, ty, pos, af, g⟩ nid ⟨m, t, h, n⟩ L = Got (TY P e) ⟨m, t, h, n⟩ fun σ T => Got (T.flds[f]?) σ fun σ fo => match ev σ.t x with
    | .pr id ver i off => Got (hget σ.h id) σ fun σ ob => match ob with
      | .box _ => Side (0 < fo.2) σ fun σ => L σ (.pr id ver i (off + fo.1)) [] [id]
      | .arr a => Side (0 < fo.2 ∧ a.ver = ver ∧ i < a.es.length) σ fun σ => L σ (.pr id ver i (off + fo.1)) [] [id]
      | _ => False
    | .pw id r i off => Got (hget σ.h id) σ fun σ ob => match ob with
      | .tab t => RowAt t r σ fun σ es => Side (0 < fo.2 ∧ i < es.length) σ fun σ => L σ (.pw id r i (off + fo.1)) [] [id]
      | _ => False
    | .bw cs => Side (0 < fo.2) σ fun σ => L σ (.bw (cs.drop fo.1)) [] []
    | _ => False := rfl
@[go_sem] theorem op_indexAddr {e : TypeId} {x ix : Operand} : vcOp P ⟨d, .indexAddr e x ix, ty, pos, af, g⟩ nid ⟨m, t, h, n⟩ L = Got (TY P e) ⟨m, t, h, n⟩ fun σ T => idxV P T (ev σ.t x) (ev σ.t ix) σ L := rfl
@[go_sem] theorem op_slice {e : TypeId} {x : Operand} {lo hi mx : Option Operand} : vcOp P ⟨d, .slice e x lo hi mx, ty, pos, af, g⟩ nid ⟨m, t, h, n⟩ L = Got (TY P e) ⟨m, t, h, n⟩ fun σ T => Got (lenOf (hget σ.h) (ev σ.t x)) σ fun σ n => Got (bound 0 (lo.map (ev σ.t))) σ fun σ l => Got (bound n (hi.map (ev σ.t))) σ fun σ h => Got (bound h (mx.map (ev σ.t))) σ fun σ m => Got (TY P T.elem) σ fun σ E =>
      Side (T.slc = true ∧ 0 ≤ l ∧ l ≤ h ∧ h ≤ m ∧ m ≤ n ∧ (mx.isSome = true → hi.isSome = true)) σ fun σ => match trunc (hget σ.h) lo.isSome mx.isSome (ev σ.t x) with
      | some (id, ver, a) => L σ (.sr id (ver + 1)) [(id, .arr { a with es := a.es.take h.toNat, ver := ver + 1 })] [id]
      | none => match truncT (hget σ.h) lo.isSome mx.isSome (ev σ.t x) with
      | some (id, ver, T') => Side (E.size = 1) σ fun σ => L σ (.st id (ver + 1)) [(id, .tab { T' with out := T'.out.take h.toNat, ver := ver + 1 })] [id]
      | none => match ev σ.t x with
      | .st id ver => Side (E.size = 1) σ fun σ => L σ (.tv id ver l.toNat (h.toNat - l.toNat)) [] [id]
      | p => Got (els (hget σ.h) p) σ fun σ es => Side (∀ e ∈ es, e.length = E.size) σ fun σ => L σ (.d (.sl ((es.drop l.toNat).take (h.toNat - l.toNat)))) (frz (hget σ.h) (f0 p)) (f0 p) := rfl
@[go_sem] theorem op_call {c : Call} : vcOp P ⟨d, .call c, ty, pos, af, g⟩ nid ⟨m, t, h, n⟩ L = callV P c nid ⟨m, t, h, n⟩ L := rfl
end
end
end Go.Pm
