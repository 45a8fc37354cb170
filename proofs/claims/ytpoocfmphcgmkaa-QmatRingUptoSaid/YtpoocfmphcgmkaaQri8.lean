/-
  The pure machine, part 11: every operation; regions in the order of the text.
-/
import Derived.RangeFuncRecord
import Derived.Test.YtpoocfmphcgmkaaQri7
import Derived.OrdersIn
set_option linter.unusedVariables false
set_option linter.unusedSimpArgs false
set_option linter.unusedSimpArgs false
set_option linter.unusedVariables false
namespace Go
/-- no cells -/
def Obj.rawO : Obj → Bool
  | .cells .. => false
  | _ => true
end Go
namespace Go.Pm
open Go.RowKit

section
variable {P : Program} {E : Env} {loc : Locs} {kn : Nat → Prop} {w : World} {a : Act} {σ : St} {nid : Nat} {K : Kt} {o : Oper}

/-- what comes behind an operation -/
def After (E : Env) (σ : St) (nid : Nat) (loc : Locs) (kn : Nat → Prop) (w : World) (K : Kt) (next : Value → World → Prop) : Prop :=
  ∀ r U Rd v loc' kn' w', K σ r U Rd → Tr E (hget σ.h) loc kn w (upd U (hget σ.h)) loc' kn' w' → PRep (cxOf E (upd U (hget σ.h)) loc' w') (upd U (hget σ.h)) loc' kn' r v → (∀ id, kn' id → kn id ∨ (nid ≤ id ∧ id < nid + 4)) → next v w'

theorem Out.wpIn {ro : Option Nat} {n : Nat} (hd : ∀ c, o.op ≠ .defer c) (h : Out P E o σ nid loc kn w a K) {next : Act → World → Prop} {Q : Exit → Act → World → Prop} (hn : After E σ nid loc kn w K fun v w' => next (a.put o.dst v) w') : o.wpIn (FW ro) n P a w next Q := by
  obtain ⟨r, U, Rd, v, loc', kn', w', hK, hrun, ht, hr, hk⟩ := h
  refine ⟨fun _ _ => trivial, ?_⟩
  rw [Oper.semAt_eq _ _ _ hd]
  have := hn r U Rd v loc' kn' w' hK ht hr hk
  rcases hrun with h1 | ⟨h1, rfl⟩
  · rw [h1]; exact this
  · rw [h1]; exact this

theorem op_sound (h : vcOp P o nid σ K) (hm : MC E (hget σ.h) loc kn w) (hn : ∀ j, j < 4 → ¬ kn (nid + j)) (hs : SlotsOk (cxOf E (hget σ.h) loc w) (hget σ.h) loc kn σ.t a) {next : Act → World → Prop} {Q : Exit → Act → World → Prop}
    (hnext : After E σ nid loc kn w K fun v w' => next (a.put o.dst v) w') {ro : Option Nat} {n : Nat} : o.wpIn (FW ro) n P a w next Q := by
  have hn0 : ¬ kn nid := hn 0 (by decide)
  cases ho : o.op with
  | move x => exact (out_move (.inl ho) (by unfold vcOp at h; simp only [ho] at h; exact h) hm hs).wpIn (by simp [ho]) hnext
  | assign x => exact (out_move (.inr ho) (by unfold vcOp at h; simp only [ho] at h; exact h) hm hs).wpIn (by simp [ho]) hnext
  | pick c x y => exact (out_pick ho h hm hs).wpIn (by simp [ho]) hnext
  | extract x i => exact (out_extract ho h hm hs).wpIn (by simp [ho]) hnext
  | alloc t => exact (out_alloc ho h hm hn0).wpIn (by simp [ho]) hnext
  | box t x => exact (out_box ho h hm hn0 hs).wpIn (by simp [ho]) hnext
  | build t ps => exact (out_build ho h hm hs).wpIn (by simp [ho]) hnext
  | buildSlice t len ps => exact (out_buildSlice ho h hm hn0 hs).wpIn (by simp [ho]) hnext
  | load t x => exact (out_load ho h hm hs).wpIn (by simp [ho]) hnext
  | store t x y => exact (out_store ho h hm hs).wpIn (by simp [ho]) hnext
  | binOp op t x y t' => exact (out_bin ho h hm hs).wpIn (by simp [ho]) hnext
  | unOp op t x => exact (out_un ho h hm hs).wpIn (by simp [ho]) hnext
  | convert s t x => exact (out_conv ho h hm hs).wpIn (by simp [ho]) hnext
  | makeFunc fn first caps => exact (out_makeFunc ho h hm hs).wpIn (by simp [ho]) hnext
  | makeSlice t l c => exact (out_makeSlice ho h hm hn0 hs).wpIn (by simp [ho]) hnext
  | fieldAddr s x f => exact (out_fieldAddr ho h hm hs).wpIn (by simp [ho]) hnext
  | indexAddr t x ix => exact (out_indexAddr ho h hm hs).wpIn (by simp [ho]) hnext
  | nilCheck x => exact (out_nilCheck ho h hm hs).wpIn (by simp [ho]) hnext
  | field s x f => exact (out_field ho h hm hs).wpIn (by simp [ho]) hnext
  | index t x i => exact (out_index ho h hm hs).wpIn (by simp [ho]) hnext
  | slice t x lo hi mx => exact (out_slice ho h hm hs).wpIn (by simp [ho]) hnext
  | call c =>
    unfold vcOp at h
    simp only [ho] at h
    cases hc : c.callee with
    | value f =>
      unfold callV at h
      simp only [hc] at h
      split at h
      · rename_i g caps hf
        rcases h with h | ⟨hs', r, h', hcall, hhas, hK⟩
        · obtain ⟨as, has, r, hp, hlen, h⟩ := got_spec h
          exact call_run ho hc hf hp.enters hs (pcall_run (next := fun v w' => next (a.put o.dst v) w') has hp hlen hm hn (fun v loc' kn' w' ht hr hk => hnext _ _ _ v loc' kn' w' h ht hr hk))
        · refine call_run ho hc hf hcall.enters hs (fun vs hvs hrep => (hcall.calls E _ loc kn w vs hm (hasH_get hhas) hn hvs hrep).mono (fun e w' ⟨v, loc', kn', he, ht, hr, hk⟩ => ⟨v, he, hnext _ _ _ v loc' kn' w' hK ht hr hk⟩))
      · exact h.elim
    | invoke x y => unfold callV at h; simp only [hc] at h
    | builtin b =>
      cases b with
      | len =>
        have h0 := h
        unfold callV at h
        simp only [hc] at h
        split at h
        · rename_i x t ha ht
          exact (out_len ho hc ha ht h0 hm hs).wpIn (by simp [ho]) hnext
        · exact h.elim
      | append =>
        unfold callV at h
        simp only [hc] at h
        split at h
        · rename_i s x t t' ha ht
          obtain ⟨T, hT, htt, h2⟩ := got_spec h
          exact (out_append ho hc ha (by rw [ht, htt]) hT h2 hm hn0 hs).wpIn (by simp [ho]) hnext
        · exact h.elim
      | copy =>
        unfold callV at h
        simp only [hc] at h
        split at h
        · rename_i s x t t' ha ht
          obtain ⟨T, hT, h2⟩ := got_spec h
          exact (out_copy ho hc ha ht hT h2 hm hs).wpIn (by simp [ho]) hnext
        · exact h.elim
      | max =>
        unfold callV at h
        simp only [hc] at h
        obtain ⟨m, hmx, h⟩ := got_spec h
        refine Out.wpIn (by simp [ho]) (Out.quiet hm h (v := .int m.1 m.2) ?_ (.d (.v _))) hnext
        have key : ∀ (l : List Operand) (k : IntKind) (z : Int), maxL.maxG k z (l.map (ev σ.t)) = some m → ((l.map a.eval).foldlM Builtin.max2 (.int k z)).run P w = .ok (.int m.1 m.2) w := by
          intro l
          induction l with
          | nil => intro k z h; simp only [List.map_nil, maxL.maxG, Option.some.injEq] at h; subst h; rfl
          | cons x l ih =>
            intro k z h
            have hx := evRep hs x
            simp only [List.map_cons] at h ⊢
            generalize ev σ.t x = p at h hx
            unfold maxL.maxG at h
            split at h
            · rename_i e; cases e
            · rename_i k' q l' e1
              simp only [List.cons.injEq] at e1
              rw [e1.1] at hx
              rw [List.foldlM_cons, hx.val]
              simp only [Builtin.max2, Sem.run_bind, Sem.run_pure, Result.andThen_ok]
              exact ih _ _ (by rw [e1.2]; exact h)
            · cases h
        unfold execOp
        simp only [ho, resolve, hc, Sem.run_bind, Sem.run_pure, Result.andThen_ok, invoke, builtin, Builtin.max_, Array.toList_map]
        cases hargs : c.args.toList with
        | nil => rw [hargs] at hmx; cases hmx
        | cons x l =>
          rw [hargs] at hmx
          have hx := evRep hs x
          simp only [List.map_cons] at hmx ⊢
          unfold maxL at hmx
          split at hmx
          · rename_i e; cases e
          · rename_i k q l' e1
            simp only [List.cons.injEq] at e1
            rw [e1.1] at hx
            rw [hx.val]
            have := key l k q (by rw [e1.2]; exact hmx)
            simp only [this, Result.andThen_ok]
          · cases hmx
      | _ => unfold callV at h; simp only [hc] at h
  | _ => unfold vcOp at h; simp only [ho] at h

/-! ### regions -/
def putS (t : Slots) (dst : Option Tmp) (r : PV) : Slots := match dst with
  | some d => (d, r) :: t
  | none => t
def stepS (σ : St) (dst : Option Tmp) (r : PV) (U : Heap) : St := ⟨σ.m, putS σ.t dst r, U ++ σ.h, σ.n⟩
def guardV (ops : Array Oper) (g : Option (Nat × Bool)) (σ : St) (k1 k2 : St → Prop) : Prop := match g with
  | none => k1 σ
  | some (j, want) => match (ops[j]?).bind (·.dst) with
    | some d => match get σ.t d with
      | .d (.v (.bool c)) => IfB (c == want) σ k1 k2
      | .d (.v (.tuple _)) => k2 σ
      | _ => False
    | none => False
def dstOk (m : Nat) : Option Tmp → Prop
  | some d => d < m
  | none => True
abbrev Log := List (List Nat × List Nat)
/-- what a frame may do besides: call the yield of a loop; range over a function -/
structure Md where
  Y : List PV → St → (St → Bool → Prop) → Prop
  R : Operand → Array Tmp → Code → Code → (Exit → St → Prop) → St → Prop
def noM : Md := ⟨fun _ _ _ => False, fun _ _ _ _ _ _ => False⟩
def yieldOf (o : Oper) (σ : St) : Option (List PV) := match o.op with
  | .call c => match c.callee with
    | .value f => match ev σ.t f with
      | .yd => some (c.args.toList.map (ev σ.t))
      | _ => none
    | _ => none
  | _ => none
def opY (P : Program) (M : Md) (o : Oper) (nid : Nat) (σ : St) (K : Kt) : Prop := match yieldOf o σ with
  | some as => M.Y as ⟨σ.m, σ.t, σ.h, nid⟩ fun σ' b => K σ' (boolP b) [] []
  | none => vcOp P o nid σ K
def vcOps (P : Program) (M : Md) (ops : Array Oper) : List Oper → Nat → Log → (St → Log → Prop) → St → Prop
  | [], _, log, kk, σ => kk σ log
  | o :: os, i, log, kk, σ => Side (dstOk σ.m o.dst) σ fun σ => guardV ops o.guard σ
      (fun σ => opY P M o (σ.n + 4 * i) σ fun σ r U Rd => vcOps P M ops os (i + 1) (log ++ [(Rd, U.map (·.1))]) kk (stepS σ o.dst r U))
      (fun σ => vcOps P M ops os (i + 1) (log ++ [([], [])]) kk (stepS σ o.dst (.d (.v undef)) []))
def bump (σ : St) (k : Nat) : St := ⟨σ.m, σ.t, σ.h, σ.n + 4 * k⟩

/-- the marks of loops over functions among the deferred calls -/
def DefsOk (B : Nat) (w : World) (ds : List Deferred) : Prop := ∃ bs : List Nat, ds = bs.map (fun b => { target := .collected b, args := #[] }) ∧ bs.Nodup ∧ ∀ b ∈ bs, w.heap[b]? = some (.deferred (some [])) ∧ B ≤ b
theorem DefsOk.nil (B : Nat) (w : World) : DefsOk B w [] := ⟨[], rfl, List.nodup_nil, fun b h => by cases h⟩

/-- an own block holds cells -/
theorem MC.cells {E : Env} {hg : Nat → Option Ob} {loc : Locs} {kn : Nat → Prop} {w : World} (h : MC E hg loc kn w) {id b : Nat} (hi : hg id ≠ none) (hb : (loc id).has b) : ∃ c t, w.heap[b]? = some (.cells c t (0, 0)) := by
  obtain ⟨ob, hob⟩ := Option.ne_none_iff_exists'.1 hi
  have arr : ∀ (a : Arr) (l : Lc), ArrAt (cxOf E hg loc w) a l → l.has b → ∃ c t, w.heap[b]? = some (.cells c t (0, 0)) := fun a l ha hl => by
    cases l with
    | no => exact hl.elim
    | tb _ _ => exact ha.elim
    | pl b' cap => cases hl; obtain ⟨c, h1, _⟩ := ha; exact ⟨c, _, h1⟩
  have h2 := (h.objs id ob hob).2
  cases ob with
  | box cs => obtain ⟨b', cap, c, e, hl, h1, _⟩ := h.box hob; rw [hl] at hb; cases hb; exact ⟨c, e, h1⟩
  | arr a => exact arr a _ h2.2 hb
  | tab T =>
    obtain ⟨lo, rl, hl, hT⟩ := h.tab hob
    rw [hl] at hb
    rcases hb with hb | ⟨r, hb⟩
    · have hout := hT.out
      cases lo with
      | no => exact hb.elim
      | tb _ _ => exact hout.elim
      | pl b' cap => cases hb; obtain ⟨c, h1, _⟩ := hout; exact ⟨c, _, h1⟩
    · cases hr : T.row r with
      | none => rw [hT.gone r hr] at hb; exact hb.elim
      | some es => exact arr _ _ (hT.row r es hr) hb
  | dead => have h2 : loc id = .no := h2; rw [h2] at hb; exact hb.elim
theorem MC.raw {E : Env} {hg : Nat → Option Ob} {loc : Locs} {kn : Nat → Prop} {w : World} (h : MC E hg loc kn w) {b : Nat} {o : Obj} (ho : w.heap[b]? = some o) (hc : o.rawO = true) : ¬ ∃ id, hg id ≠ none ∧ (loc id).has b := fun ⟨id, h1, h2⟩ => by
  obtain ⟨c, t, h3⟩ := h.cells h1 h2
  rw [ho] at h3
  cases h3
  cases hc
theorem Tr.raw {E : Env} {hg hg' : Nat → Option Ob} {loc loc' : Locs} {kn kn' : Nat → Prop} {w w' : World} (hm : MC E hg loc kn w) (h : Tr E hg loc kn w hg' loc' kn' w') {b : Nat} {o : Obj} (ho : w.heap[b]? = some o) (hc : o.rawO = true) : w'.heap[b]? = some o :=
  (h.blk b (Array.getElem?_eq_some_iff.1 ho).1 (hm.raw ho hc)).trans ho
theorem DefsOk.tr {E : Env} {hg hg' : Nat → Option Ob} {loc loc' : Locs} {kn kn' : Nat → Prop} {w w' : World} {B : Nat} {ds : List Deferred} (hd : DefsOk B w ds) (hm : MC E hg loc kn w) (h : Tr E hg loc kn w hg' loc' kn' w') : DefsOk B w' ds := by
  obtain ⟨bs, h1, h2, h3⟩ := hd
  exact ⟨bs, h1, h2, fun b hb => ⟨h.raw hm (h3 b hb).1 rfl, (h3 b hb).2⟩⟩

/-- how memory has turned since a frame was entered; the blocks X may have turned too -/
structure TrX (E : Env) (X : Nat → Prop) (hg : Nat → Option Ob) (loc : Locs) (kn : Nat → Prop) (w : World) (hg' : Nat → Option Ob) (loc' : Locs) (kn' : Nat → Prop) (w' : World) : Prop where
  cx : Cx.le (cxOf E hg loc w) (cxOf E hg' loc' w')
  rf : RefLe hg hg' loc loc' kn
  kn : ∀ id, kn id → kn' id
  sz : w.heap.size ≤ w'.heap.size
  blk : ∀ b, b < w.heap.size → (¬ ∃ id, hg id ≠ none ∧ (loc id).has b) → ¬ X b → w'.heap[b]? = w.heap[b]?
  own : ∀ id b, hg' id ≠ none → (loc' id).has b → (∃ i, hg i ≠ none ∧ (loc i).has b) ∨ w.heap.size ≤ b
theorem Tr.x {E : Env} {hg hg' : Nat → Option Ob} {loc loc' : Locs} {kn kn' : Nat → Prop} {w w' : World} (h : Tr E hg loc kn w hg' loc' kn' w') (X : Nat → Prop) : TrX E X hg loc kn w hg' loc' kn' w' :=
  ⟨h.cx, h.rf, h.kn, h.sz, fun b h1 h2 _ => h.blk b h1 h2, h.own⟩
theorem TrX.trans {E : Env} {X : Nat → Prop} {h1 h2 h3 : Nat → Option Ob} {l1 l2 l3 : Locs} {k1 k2 k3 : Nat → Prop} {w1 w2 w3 : World} (h : TrX E X h1 l1 k1 w1 h2 l2 k2 w2) (k : TrX E X h2 l2 k2 w2 h3 l3 k3 w3) : TrX E X h1 l1 k1 w1 h3 l3 k3 w3 :=
  ⟨h.cx.trans k.cx, h.rf.trans k.rf h.kn, fun id hi => k.kn id (h.kn id hi), Nat.le_trans h.sz k.sz,
    fun b hb hno hx => (k.blk b (Nat.lt_of_lt_of_le hb h.sz) (fun ⟨id, g1, g2⟩ => (h.own id b g1 g2).elim hno (fun g => absurd hb (by omega))) hx).trans (h.blk b hb hno hx),
    fun id b g1 g2 => (k.own id b g1 g2).elim (fun ⟨i, g3, g4⟩ => h.own i b g3 g4) (fun g => .inr (Nat.le_trans h.sz g))⟩

/-- a frame as it was entered: X: blocks that may turn; L: objects that must stand -/
structure Fr where
  X : Nat → Prop
  hg : Nat → Option Ob
  loc : Locs
  kn : Nat → Prop
  w : World
  n : Nat
  L : Nat → Option Obj
structure In (E : Env) (Φ : Fr) (hg : Nat → Option Ob) (loc : Locs) (kn : Nat → Prop) (w : World) : Prop where
  tr : TrX E Φ.X Φ.hg Φ.loc Φ.kn Φ.w hg loc kn w
  keep : ∀ b o, Φ.L b = some o → o.rawO = true ∧ w.heap[b]? = some o
  knlt : ∀ id, Φ.kn id → id < Φ.n
  llt : ∀ b o, Φ.L b = some o → b < Φ.w.heap.size
  w0 : E.w0.heap.size ≤ Φ.w.heap.size
theorem In.step {E : Env} {Φ : Fr} {hg hg' : Nat → Option Ob} {loc loc' : Locs} {kn kn' : Nat → Prop} {w w' : World} (h : In E Φ hg loc kn w) (hm : MC E hg loc kn w) (ht : Tr E hg loc kn w hg' loc' kn' w') : In E Φ hg' loc' kn' w' :=
  ⟨h.tr.trans (ht.x _), fun b o hb => ⟨(h.keep b o hb).1, ht.raw hm (h.keep b o hb).2 (h.keep b o hb).1⟩, h.knlt, h.llt, h.w0⟩
theorem In.sub {E : Env} {Φ : Fr} {hg hg' : Nat → Option Ob} {loc : Locs} {kn : Nat → Prop} {w : World} (h : In E Φ hg loc kn w) (hh : ∀ id ob, hg' id = some ob → hg id = some ob) {n : Nat} (hn : Φ.n ≤ n) : In E Φ hg' loc (fun id => kn id ∧ id < n) w := by
  have hne : ∀ id, hg' id ≠ none → hg id ≠ none := fun id h1 => by
    obtain ⟨ob, hob⟩ := Option.ne_none_iff_exists'.1 h1
    rw [hh id ob hob]; simp
  refine ⟨⟨⟨h.tr.cx.cell, fun b o v h1 h2 ⟨id, ob, h3, h4⟩ => h.tr.cx.ow b o v h1 h2 ⟨id, ob, hh id ob h3, h4⟩, h.tr.cx.am, h.tr.cx.y⟩, ⟨fun id cs hk hi => h.tr.rf.box id cs hk (hh _ _ hi), fun id a hk hi => h.tr.rf.arr id a hk (hh _ _ hi), fun id T hk hi => h.tr.rf.tab id T hk (hh _ _ hi)⟩,
    fun id hk => ⟨h.tr.kn id hk, Nat.lt_of_lt_of_le (h.knlt id hk) hn⟩, h.tr.sz, h.tr.blk, fun id b h1 h2 => h.tr.own id b (hne id h1) h2⟩, h.keep, h.knlt, h.llt, h.w0⟩

/-- what an abstract state stands for -/
structure Conc (E : Env) (σ : St) (loc : Locs) (kn : Nat → Prop) (a : Act) (w : World) : Prop where
  mc : MC E (hget σ.h) loc kn w
  slots : SlotsOk (cxOf E (hget σ.h) loc w) (hget σ.h) loc kn σ.t a
  size : a.tmps.size = σ.m
  known : ∀ id, kn id → id < σ.n

/-- what is asked of a yield: the round is there, and it leaves the memory as the state behind it says -/
def YOk (P : Program) (E : Env) (Φ : Fr) (ro : Option Nat) (n : Nat) (Y : List PV → St → (St → Bool → Prop) → Prop) : Prop :=
  ∀ (l : Nat) (as : List PV) (σ : St) (K : St → Bool → Prop) (loc : Locs) (kn : Nat → Prop) (w : World) (vs : Array Value), E.y = some l → Y as σ K → MC E (hget σ.h) loc kn w → In E Φ (hget σ.h) loc kn w → Φ.n ≤ σ.n → (∀ id, kn id → id < σ.n) →
    vs.size = as.length → (∀ (j : Nat) (p : PV) (v : Value), as[j]? = some p → vs[j]? = some v → PRep (cxOf E (hget σ.h) loc w) (hget σ.h) loc kn p v) →
    ∃ fn tmps assign body, (Instr.yield l vs).run P w = .ok (.round l fn tmps assign body) w ∧ RoundIn (FW ro) (n - 1) P l fn tmps assign body w fun e w' => ∃ b h' n' loc' kn', e = .returned (.bool b) ∧ K ⟨σ.m, σ.t, h', n'⟩ b ∧
      MC E (hget h') loc' kn' w' ∧ In E Φ (hget h') loc' kn' w' ∧ Cx.le (cxOf E (hget σ.h) loc w) (cxOf E (hget h') loc' w') ∧ RefLe (hget σ.h) (hget h') loc loc' kn ∧ (∀ id, kn id → kn' id) ∧ (∀ B ds, DefsOk B w ds → DefsOk B w' ds) ∧ (∀ id, kn' id → id < n') ∧ σ.n ≤ n'
theorem YOk.no {P : Program} {E : Env} {Φ : Fr} {ro : Option Nat} {n : Nat} : YOk P E Φ ro n noM.Y := fun _ _ _ _ _ _ _ _ _ h => h.elim

theorem slots_put {C : Cx} {hg : Nat → Option Ob} {t : Slots} (h : SlotsOk C hg loc kn t a) {r : PV} {v : Value} (hr : PRep C hg loc kn r v) {dst : Option Tmp} (hd : dstOk a.tmps.size dst) :
    SlotsOk C hg loc kn (putS t dst r) (a.put dst v) := fun u => by
  cases dst with
  | none => exact h u
  | some d =>
    simp only [putS, get, Act.put]
    have hd : d < a.tmps.size := hd
    split
    · rename_i e
      subst e
      have e : (a.tmps.setIfInBounds d v).getD d undef = v := by simp [Array.getD_eq_getD_getElem?, hd]
      rw [e]; exact hr
    · rename_i e
      have e2 : (a.tmps.setIfInBounds d v).getD u undef = a.tmps.getD u undef := by simp [Array.getD_eq_getD_getElem?, e]
      rw [e2]; exact h u

theorem slots_tr {hg hg' : Nat → Option Ob} {loc' : Locs} {kn' : Nat → Prop} {w' : World} (ht : Tr E hg loc kn w hg' loc' kn' w') {t : Slots} (h : SlotsOk (cxOf E hg loc w) hg loc kn t a) : SlotsOk (cxOf E hg' loc' w') hg' loc' kn' t a :=
  fun u => (h u).le ht.cx ht.rf ht.kn

/-- whether an operation is wanted -/
theorem guard_run {ops : Array Oper} {g : Option (Nat × Bool)} {k1 k2 : St → Prop} (h : guardV ops g σ k1 k2) (hs : SlotsOk (cxOf E (hget σ.h) loc w) (hget σ.h) loc kn σ.t a) (hg : o.guard = g) :
    (Region.wanted o (yielded ops a.tmps) = true ∧ k1 σ) ∨ (Region.wanted o (yielded ops a.tmps) = false ∧ k2 σ) := by
  unfold guardV at h
  split at h
  · exact .inl ⟨by simp [Region.wanted, hg], h⟩
  · rename_i j want
    split at h
    · rename_i d hd
      have hsd := hs d
      have slot : ∀ u, u ≠ undef → a.tmps.getD d undef = u → a.tmps[d]? = some u := fun u hu e => by
        rw [Array.getD_eq_getD_getElem?] at e
        cases hx : a.tmps[d]? with
        | none => rw [hx] at e; exact absurd e.symm hu
        | some y => rw [hx] at e; exact congrArg some e
      split at h
      · rename_i c hc
        rw [hc] at hsd
        have hv := slot _ (by simp [undef]) hsd.val
        have hw : Region.wanted o (yielded ops a.tmps) = (c == want) := by
          simp only [Region.wanted, hg, yielded, hd, Option.bind_some, hv]
          cases c <;> cases want <;> rfl
        cases e : (c == want) with
        | true => exact .inl ⟨by rw [hw, e], h.1 e⟩
        | false => exact .inr ⟨by rw [hw, e], h.2 e⟩
      · rename_i vs hc
        rw [hc] at hsd
        have hv := hsd.val
        refine .inr ⟨?_, h⟩
        simp only [Region.wanted, hg, yielded, hd, Option.bind_some]
        rw [Array.getD_eq_getD_getElem?] at hv
        cases hx : a.tmps[d]? with
        | none => cases want <;> rfl
        | some y => rw [hx] at hv; have hv : y = .tuple vs := hv; subst hv; cases want <;> rfl
      · exact h.elim
    · exact h.elim

/-- a call of yield -/
theorem yield_sound {M : Md} {Φ : Fr} {ro : Option Nat} {n : Nat} (hY : YOk P E Φ ro n M.Y) {as : List PV} (hy : yieldOf o σ = some as) {K : St → Bool → Prop} (h : M.Y as ⟨σ.m, σ.t, σ.h, nid⟩ K) (hm : MC E (hget σ.h) loc kn w) (hi : In E Φ (hget σ.h) loc kn w) (hn : Φ.n ≤ nid)
    (hk : ∀ id, kn id → id < nid) (hs : SlotsOk (cxOf E (hget σ.h) loc w) (hget σ.h) loc kn σ.t a) {next : Act → World → Prop} {Q : Exit → Act → World → Prop}
    (hnext : ∀ b h' n' loc' kn' w', K ⟨σ.m, σ.t, h', n'⟩ b → MC E (hget h') loc' kn' w' → In E Φ (hget h') loc' kn' w' → Cx.le (cxOf E (hget σ.h) loc w) (cxOf E (hget h') loc' w') → RefLe (hget σ.h) (hget h') loc loc' kn → (∀ id, kn id → kn' id) → (∀ B ds, DefsOk B w ds → DefsOk B w' ds) → (∀ id, kn' id → id < n') → nid ≤ n' →
      next (a.put o.dst (.bool b)) w') : o.wpIn (FW ro) n P a w next Q := by
  unfold yieldOf at hy
  split at hy
  · rename_i c ho
    split at hy
    · rename_i f hc
      split at hy
      · rename_i hf
        simp only [Option.some.injEq] at hy
        subst hy
        have hfv := evRep hs f
        rw [hf] at hfv
        obtain ⟨l', hl', hfv⟩ : ∃ l', E.y = some l' ∧ a.eval f = yl l' := by
          generalize a.eval f = u at hfv
          cases hfv with
          | @yd l h => exact ⟨l, h, rfl⟩
        obtain ⟨fn, tmps, assign, body, h1, h2⟩ := hY l' _ _ K loc kn w (c.args.map a.eval) hl' h hm hi hn hk (by simp) (fun j p v hp hv => by
          rw [List.getElem?_map] at hp
          obtain ⟨x, hx, rfl⟩ := Option.map_eq_some_iff.1 hp
          rw [Array.getElem?_map] at hv
          rw [Array.getElem?_toList] at hx
          rw [hx] at hv
          cases hv
          exact evRep hs x)
        have hrun : (execOp a.eval o).run P w = .ok (.round l' fn tmps assign body) w := by
          unfold execOp
          simp only [ho, resolve, hc, hfv, yl, Deferred.ofValue, Sem.run_bind, Sem.run_pure, Result.andThen_ok, invoke]
          simpa using h1
        refine ⟨fun _ _ => trivial, ?_⟩
        rw [Oper.semAt_eq _ _ _ (by simp [ho]), hrun, Oper.uponIn_round]
        refine ⟨fun h0 => (by cases h0), h2.mono ?_⟩
        rintro e w' ⟨b, h', n', loc', kn', rfl, g1, g2, g3, g4, g5, g6, g7, g8, g9⟩
        exact hnext b h' n' loc' kn' w' g1 g2 g3 g4 g5 g6 g7 g8 g9
      · cases hy
    · cases hy
  · cases hy

/-- a region in the order of the text -/
theorem ops_sound {M : Md} {Φ : Fr} {ro : Option Nat} {n : Nat} (hY : YOk P E Φ ro n M.Y) {ops : Array Oper} {Q : Exit → Act → World → Prop} {kk : St → Log → Prop} : ∀ (l : List Oper) (i : Nat) (log : Log) (σ : St) (loc : Locs) (kn : Nat → Prop) (a : Act) (w : World), vcOps P M ops l i log kk σ →
    MC E (hget σ.h) loc kn w → SlotsOk (cxOf E (hget σ.h) loc w) (hget σ.h) loc kn σ.t a → a.tmps.size = σ.m → DefsOk Φ.w.heap.size w a.defers → (∀ id, kn id → id < σ.n + 4 * i) → In E Φ (hget σ.h) loc kn w → Φ.n ≤ σ.n →
    (∀ σ' log' loc' kn' a' w', kk σ' log' → MC E (hget σ'.h) loc' kn' w' → SlotsOk (cxOf E (hget σ'.h) loc' w') (hget σ'.h) loc' kn' σ'.t a' → a'.tmps.size = σ'.m → DefsOk Φ.w.heap.size w' a'.defers → (∀ id, kn' id → id < σ'.n + 4 * (i + l.length)) → In E Φ (hget σ'.h) loc' kn' w' → Φ.n ≤ σ'.n → Q .normal a' w') → wpListIn (FW ro) n P ops Q l a w
  | [], i, log, σ, loc, kn, a, w, h, hm, hs, hz, hd, hk, hi, hn, hQ => hQ σ log loc kn a w h hm hs hz hd (by simpa using hk) hi hn
  | o :: os, i, log, σ, loc, kn, a, w, h, hm, hs, hz, hd, hk, hi, hn, hQ => by
    obtain ⟨hdst, h⟩ := h
    have hput : ∀ v, (a.put o.dst v).tmps.size = σ.m ∧ (a.put o.dst v).defers = a.defers := fun v => by
      cases o.dst <;> simp [Act.put, hz]
    have hQ' : ∀ σ' log' loc2 kn2 a2 w2, kk σ' log' → MC E (hget σ'.h) loc2 kn2 w2 → SlotsOk (cxOf E (hget σ'.h) loc2 w2) (hget σ'.h) loc2 kn2 σ'.t a2 → a2.tmps.size = σ'.m → DefsOk Φ.w.heap.size w2 a2.defers → (∀ id, kn2 id → id < σ'.n + 4 * (i + 1 + os.length)) → In E Φ (hget σ'.h) loc2 kn2 w2 → Φ.n ≤ σ'.n → Q .normal a2 w2 :=
      fun σ' log' loc2 kn2 a2 w2 g1 g2 g3 g4 g5 g6 g7 g8 => hQ σ' log' loc2 kn2 a2 w2 g1 g2 g3 g4 g5 (fun id hid => by have := g6 id hid; simp only [List.length_cons]; omega) g7 g8
    rcases guard_run h hs rfl with ⟨hw, h⟩ | ⟨hw, h⟩
    · refine wpListIn_step fun K' hK => ?_
      rw [if_pos hw]
      unfold opY at h
      split at h
      · rename_i as hy
        refine yield_sound hY hy h hm hi (by omega) hk hs (fun b h' n' loc' kn' w' hkk g1 g2 g3 g4 g5 g6 g7 g8 => hK _ _ ?_)
        refine ops_sound hY os (i + 1) _ (stepS ⟨σ.m, σ.t, h', n'⟩ o.dst (boolP b) []) loc' kn' (a.put o.dst (.bool b)) w' hkk g1 (slots_put (fun u => (hs u).le g3 g4 g5) (.d (.v _)) (by rw [hz]; exact hdst)) (hput _).1 (by rw [(hput _).2]; exact g6 _ _ hd) (fun id hid => ?_) g2 ?_ hQ'
        · have := g7 id hid; show id < n' + 4 * (i + 1); omega
        · show Φ.n ≤ n'; omega
      · refine op_sound h hm (fun j hj hh => by have := hk _ hh; omega) hs (fun r U Rd v loc' kn' w' hkk ht hr hk' => hK _ _ ?_)
        have hU : hget (stepS σ o.dst r U).h = upd U (hget σ.h) := funext fun t => hget_append U σ.h t
        refine ops_sound hY os (i + 1) _ (stepS σ o.dst r U) loc' kn' (a.put o.dst v) w' hkk (by rw [hU]; exact ht.mc) (by rw [hU]; exact slots_put (slots_tr ht hs) hr (by rw [hz]; exact hdst)) (hput v).1 (by rw [(hput v).2]; exact hd.tr hm ht) (fun id hid => ?_) (by rw [hU]; exact hi.step hm ht) hn hQ'
        show id < σ.n + 4 * (i + 1)
        rcases hk' id hid with h1 | h1
        · have := hk id h1; omega
        · omega
    · refine wpListIn_step fun K' hK => ?_
      rw [if_neg (by rw [hw]; simp)]
      refine ⟨fun _ _ => trivial, hK _ _ ?_⟩
      refine ops_sound hY os (i + 1) _ (stepS σ o.dst (.d (.v undef)) []) loc kn (a.put o.dst undef) w h hm (slots_put hs (.d (.v undef)) (by rw [hz]; exact hdst)) (hput undef).1 (by rw [(hput undef).2]; exact hd) (fun id hid => ?_) hi hn hQ'
      show id < σ.n + 4 * (i + 1)
      have := hk id hid; omega
end
end Go.Pm
/-
  The pure machine: an operation looks at its operands and at the objects that its footprint names, and at nothing else.
-/
set_option linter.unusedSimpArgs false
set_option linter.unusedVariables false
namespace Go.Pm
section
variable {P : Program} {σ : St} {nid : Nat} {o : Oper}

theorem dz_loc {g g' : Nat → Option Ob} {p : PV} (h : ∀ id ∈ fz p, g' id = g id) : dz g' p = dz g p := by
  cases p with
  | sr id ver => simp only [dz, h id (by simp [fz])]
  | st id ver => simp only [dz, h id (by simp [fz])]
  | tv id ver o n => simp only [dz, h id (by simp [fz])]
  | sw id r => simp only [dz, h id (by simp [fz])]
  | _ => rfl
theorem dzs_loc {g g' : Nat → Option Ob} : ∀ {ps : List PV}, (∀ id ∈ fzs ps, g' id = g id) → dzs g' ps = dzs g ps
  | [], _ => rfl
  | p :: l, h => by simp only [dzs, dz_loc (g := g) (p := p) (fun id hi => h id (by simp [fzs, hi])), dzs_loc (ps := l) (fun id hi => h id (by simp [fzs, hi]))]
theorem d0_loc {g g' : Nat → Option Ob} {p : PV} (h : ∀ id ∈ f0 p, g' id = g id) : d0 g' p = d0 g p := by
  cases p with
  | lt ps => simp only [d0, dzs_loc (g := g) (ps := ps) h]
  | sr id ver => exact dz_loc (p := .sr id ver) h
  | st id ver => exact dz_loc (p := .st id ver) h
  | tv id ver o n => exact dz_loc (p := .tv id ver o n) h
  | sw id r => exact dz_loc (p := .sw id r) h
  | _ => rfl
theorem els_loc {g g' : Nat → Option Ob} {p : PV} (h : ∀ id ∈ f0 p, g' id = g id) : els g' p = els g p := by
  simp only [els, d0_loc h]
theorem len_loc {g g' : Nat → Option Ob} {p : PV} (h : ∀ id ∈ fz p, g' id = g id) : lenOf g' p = lenOf g p := by
  cases p with
  | sr id ver => simp only [lenOf, h id (by simp [fz])]
  | st id ver => simp only [lenOf, h id (by simp [fz])]
  | tv id ver o n => simp only [lenOf, h id (by simp [fz])]
  | sw id r => simp only [lenOf, h id (by simp [fz])]
  | d x => cases x <;> rfl
  | _ => rfl
theorem fa_sub {p : PV} : ∀ id ∈ fa p, id ∈ f0 p := fun id h => by
  cases p with
  | lt ps => exact h
  | st id ver => exact h
  | tv id ver o n => exact h
  | _ => cases h
theorem d0s_loc {g g' : Nat → Option Ob} : ∀ {ps : List PV}, (∀ id ∈ f0s ps, g' id = g id) → d0s g' ps = d0s g ps
  | [], _ => rfl
  | p :: l, h => by simp only [d0s, d0_loc (g := g) (p := p) (fun id hi => h id (by simp [f0s, hi])), d0s_loc (ps := l) (fun id hi => h id (by simp [f0s, hi]))]
theorem frz_loc {g g' : Nat → Option Ob} : ∀ {l : List Nat}, (∀ id ∈ l, g' id = g id) → frz g' l = frz g l
  | [], _ => rfl
  | id :: l, h => by simp only [frz, h id (by simp), frz_loc (l := l) (fun i hi => h i (by simp [hi]))]
theorem d1_loc {g g' : Nat → Option Ob} {p : PV} (h : ∀ id ∈ f1 p, g' id = g id) : d1 g' p = d1 g p := by
  cases p with
  | agg cs => simp only [d1, d0s_loc (ps := cs) h]
  | sr id ver => exact d0_loc (g := g) (p := .sr id ver) h
  | st id ver => exact d0_loc (g := g) (p := .st id ver) h
  | tv id ver o n => exact d0_loc (g := g) (p := .tv id ver o n) h
  | sw id r => exact d0_loc (g := g) (p := .sw id r) h
  | lt ps => exact d0_loc (g := g) (p := .lt ps) h
  | _ => rfl
theorem g1_loc {g g' : Nat → Option Ob} {p : PV} (h : ∀ id ∈ r1 p, g' id = g id) : g1 g' p = g1 g p := by
  cases p with
  | pr id ver i off => simp only [g1, h id (by simp [r1])]
  | _ => rfl
theorem a1_loc {g g' : Nat → Option Ob} {p : PV} (h : ∀ id ∈ r1 p, g' id = g id) (k : ∀ id ∈ g1 g p, g' id = g id) : a1 g' p = a1 g p := by
  cases p with
  | pr id ver i off =>
    simp only [a1, h id (by simp [r1])]
    cases hg : g id with
    | none => rfl
    | some ob =>
      cases ob with
      | arr a => rfl
      | tab a => rfl
      | dead => rfl
      | box cs => simp only [d0s_loc (ps := cs.drop off) (fun i hi => k i (by simp [g1, hg, hi]))]
  | agg cs => simp only [a1, d1_loc (p := .agg cs) k]
  | sr id ver => simp only [a1, d1_loc (p := .sr id ver) k]
  | st id ver => simp only [a1, d1_loc (p := .st id ver) k]
  | tv id ver o n => simp only [a1, d1_loc (p := .tv id ver o n) k]
  | sw id r => simp only [a1, d1_loc (p := .sw id r) k]
  | lt ps => simp only [a1, d1_loc (p := .lt ps) k]
  | bw cs => rfl
  | d x => rfl
  | _ => rfl
theorem a1s_loc {g g' : Nat → Option Ob} : ∀ {ps : List PV}, (∀ id ∈ r1s ps, g' id = g id) → (∀ id ∈ g1s g ps, g' id = g id) → a1s g' ps = a1s g ps ∧ g1s g' ps = g1s g ps
  | [], _, _ => ⟨rfl, rfl⟩
  | p :: l, h, k => by
    obtain ⟨e1, e2⟩ := a1s_loc (ps := l) (fun id hi => h id (by simp [r1s, hi])) (fun id hi => k id (by simp [g1s, hi]))
    have e3 := a1_loc (p := p) (fun id hi => h id (by simp [r1s, hi])) (fun id hi => k id (by simp [g1s, hi]))
    have e4 := g1_loc (p := p) (fun id hi => h id (by simp [r1s, hi]))
    simp only [a1s, g1s, e1, e2, e3, e4]
    exact ⟨trivial, trivial⟩
theorem a2_loc {g g' : Nat → Option Ob} {p : PV} (h : ∀ id ∈ r2 p, g' id = g id) (k : ∀ id ∈ g2 g p, g' id = g id) : a2 g' p = a2 g p ∧ g2 g' p = g2 g p := by
  cases p with
  | fn f caps =>
    obtain ⟨e1, e2⟩ := a1s_loc (ps := caps) h k
    simp only [a2, g2, e1, e2]
    exact ⟨trivial, trivial⟩
  | any => exact ⟨rfl, rfl⟩
  | d x => exact ⟨rfl, rfl⟩
  | nl => exact ⟨rfl, rfl⟩
  | yd => exact ⟨rfl, rfl⟩
  | bw cs => exact ⟨rfl, rfl⟩
  | tup cs => exact ⟨rfl, rfl⟩
  | sr id ver => exact ⟨a1_loc (p := .sr id ver) h k, g1_loc (p := .sr id ver) h⟩
  | st id ver => exact ⟨a1_loc (p := .st id ver) h k, g1_loc (p := .st id ver) h⟩
  | tv id ver o n => exact ⟨a1_loc (p := .tv id ver o n) h k, g1_loc (p := .tv id ver o n) h⟩
  | sw id r => exact ⟨a1_loc (p := .sw id r) h k, g1_loc (p := .sw id r) h⟩
  | lt ps => exact ⟨a1_loc (p := .lt ps) h k, g1_loc (p := .lt ps) h⟩
  | lp ps => exact ⟨rfl, rfl⟩
  | po id ver i => exact ⟨rfl, rfl⟩
  | pw id r i off => exact ⟨rfl, rfl⟩
  | pr id ver i off => exact ⟨a1_loc (p := .pr id ver i off) h k, g1_loc (p := .pr id ver i off) h⟩
  | agg cs => exact ⟨a1_loc (p := .agg cs) h k, g1_loc (p := .agg cs) h⟩
theorem a2s_loc {g g' : Nat → Option Ob} : ∀ {ps : List PV}, (∀ id ∈ r2s ps, g' id = g id) → (∀ id ∈ g2s g ps, g' id = g id) → a2s g' ps = a2s g ps ∧ g2s g' ps = g2s g ps
  | [], _, _ => ⟨rfl, rfl⟩
  | p :: l, h, k => by
    obtain ⟨e1, e2⟩ := a2s_loc (ps := l) (fun id hi => h id (by simp [r2s, hi])) (fun id hi => k id (by simp [g2s, hi]))
    obtain ⟨e3, e4⟩ := a2_loc (p := p) (fun id hi => h id (by simp [r2s, hi])) (fun id hi => k id (by simp [g2s, hi]))
    simp only [a2s, g2s, e1, e2, e3, e4]
    exact ⟨trivial, trivial⟩

theorem got_mk {α : Type} {x : Option α} {y : α} {τ : St} {L : St → α → Prop} (h : x = some y) (hl : L τ y) : Got x τ L := by subst h; exact hl

/-- the same again, at a state that agrees -/
def Same (σ' : St) (r : PV) (U : Heap) (Rd : List Nat) : Kt := fun s r' U' Rd' => s = σ' ∧ r' = r ∧ U' = U ∧ Rd' = Rd
def SameV (σ' : St) (v : PV) : St → PV → Prop := fun s v' => s = σ' ∧ v' = v
theorem arith_loc {k : IntKind} {z : Int} {L : St → PV → Prop} (h : arith k z σ L) : ∃ v, L σ v ∧ ∀ σ', arith k z σ' (SameV σ' v) := by
  cases k with
  | i64 => exact ⟨_, h.2, fun σ' => ⟨h.1, rfl, rfl⟩⟩
  | _ => exact ⟨_, h, fun σ' => ⟨rfl, rfl⟩⟩
theorem binV_loc {op : BinOp} {t : TypeId} {x y : PV} {L : St → PV → Prop} (h : binV P op t x y σ L) : ∃ v, L σ v ∧ ∀ σ', binV P op t x y σ' (SameV σ' v) := by
  unfold binV at h ⊢
  split at h
  case h_1 | h_2 | h_3 | h_4 =>
    obtain ⟨hk, h⟩ := h
    obtain ⟨v, h1, h2⟩ := arith_loc h
    exact ⟨v, h1, fun σ' => ⟨hk, h2 σ'⟩⟩
  case h_21 => exact h.elim
  all_goals
    obtain ⟨hk, h⟩ := h
    exact ⟨_, h, fun σ' => ⟨hk, rfl, rfl⟩⟩
theorem arith_mono {k : IntKind} {z : Int} {L L' : St → PV → Prop} (h : arith k z σ L) (hh : ∀ s v, L s v → L' s v) : arith k z σ L' := by
  cases k with
  | i64 => exact ⟨h.1, hh _ _ h.2⟩
  | _ => exact hh _ _ h
theorem binV_mono {op : BinOp} {t : TypeId} {x y : PV} {L L' : St → PV → Prop} (h : binV P op t x y σ L) (hh : ∀ s v, L s v → L' s v) : binV P op t x y σ L' := by
  unfold binV at h ⊢
  split at h
  case h_1 | h_2 | h_3 | h_4 => exact ⟨h.1, arith_mono h.2 hh⟩
  case h_21 => exact h.elim
  all_goals exact ⟨h.1, hh _ _ h.2⟩
theorem unV_mono {op : UnOp} {x : PV} {L L' : St → PV → Prop} (h : unV op x σ L) (hh : ∀ s v, L s v → L' s v) : unV op x σ L' := by
  unfold unV at h ⊢
  split at h
  · exact hh _ _ h
  · exact arith_mono h hh
  · exact hh _ _ h
  · exact h.elim
theorem convV_mono {s d : TypeId} {x : PV} {L L' : St → PV → Prop} (h : convV P s d x σ L) (hh : ∀ s v, L s v → L' s v) : convV P s d x σ L' := by
  unfold convV at h ⊢
  split at h
  · obtain ⟨k', h1, h⟩ := got_spec h
    obtain ⟨k, h2, h⟩ := got_spec h
    rw [h1, h2]
    exact hh _ _ h
  · exact h.elim
theorem unV_loc {op : UnOp} {x : PV} {L : St → PV → Prop} (h : unV op x σ L) : ∃ v, L σ v ∧ ∀ σ', unV op x σ' (SameV σ' v) := by
  unfold unV at h ⊢
  split at h
  · exact ⟨_, h, fun σ' => ⟨rfl, rfl⟩⟩
  · exact arith_loc h
  · exact ⟨_, h, fun σ' => ⟨rfl, rfl⟩⟩
  · exact h.elim
theorem convV_loc {s d : TypeId} {x : PV} {L : St → PV → Prop} (h : convV P s d x σ L) : ∃ v, L σ v ∧ ∀ σ', convV P s d x σ' (SameV σ' v) := by
  unfold convV at h ⊢
  split at h
  · obtain ⟨k', h1, h⟩ := got_spec h
    obtain ⟨k, h2, h⟩ := got_spec h
    exact ⟨_, h, fun σ' => by rw [h1, h2]; exact ⟨rfl, rfl⟩⟩
  · exact h.elim

theorem loadV_loc {T : Ty} {x : PV} {K : Kt} (h : loadV T x σ K) : ∃ r U Rd, K σ r U Rd ∧ ∀ σ', (∀ id ∈ Rd, hget σ'.h id = hget σ.h id) → loadV T x σ' (Same σ' r U Rd) := by
  unfold loadV at h ⊢
  split at h
  · rename_i id ver i off
    obtain ⟨ob, hob, h⟩ := got_spec h
    split at h
    · obtain ⟨hs, h⟩ := h
      exact ⟨_, _, _, h, fun σ' ha => by rw [ha id (by simp), hob]; exact ⟨hs, rfl, rfl, rfl, rfl⟩⟩
    · obtain ⟨hs, e, he, h⟩ := h
      exact ⟨_, _, _, h, fun σ' ha => by rw [ha id (by simp), hob]; exact ⟨hs, e, he, rfl, rfl, rfl, rfl⟩⟩
    · exact h.elim
  · rename_i id ver i
    obtain ⟨ob, hob, h⟩ := got_spec h
    split at h
    · obtain ⟨hs, r, hr, es, hes, h⟩ := h
      exact ⟨_, _, _, h, fun σ' ha => got_mk ((ha id (by simp)).trans hob) ⟨hs, r, hr, es, hes, rfl, rfl, rfl, rfl⟩⟩
    · exact h.elim
  · rename_i id r i off
    obtain ⟨ob, hob, h⟩ := got_spec h
    split at h
    · obtain ⟨hs, es, hes, e, he, h⟩ := h
      exact ⟨_, _, _, h, fun σ' ha => got_mk ((ha id (by simp)).trans hob) ⟨hs, es, hes, e, he, rfl, rfl, rfl, rfl⟩⟩
    · exact h.elim
  · obtain ⟨hs, h⟩ := h
    exact ⟨_, _, _, h, fun σ' ha => ⟨hs, rfl, rfl, rfl, rfl⟩⟩
  · obtain ⟨hs, h⟩ := h
    exact ⟨_, _, _, h, fun σ' ha => ⟨hs, rfl, rfl, rfl, rfl⟩⟩
  · exact h.elim
theorem storeV_loc {T : Ty} {x y : PV} {K : Kt} (h : storeV T x y σ K) : ∃ r U Rd, K σ r U Rd ∧ ∀ σ', (∀ id ∈ Rd, hget σ'.h id = hget σ.h id) → storeV T x y σ' (Same σ' r U Rd) := by
  unfold storeV at h ⊢
  split at h
  · rename_i id ver i off
    obtain ⟨ob, hob, h⟩ := got_spec h
    split at h
    · obtain ⟨hs, h⟩ := h
      exact ⟨_, _, _, h, fun σ' ha => by rw [ha id (by simp), hob]; exact ⟨hs, rfl, rfl, rfl, rfl⟩⟩
    · obtain ⟨ds, hds, h⟩ := got_spec h
      obtain ⟨hs, e, he, h⟩ := h
      refine ⟨_, _, _, h, fun σ' ha => ?_⟩
      have e1 := d0s_loc (g := hget σ.h) (g' := hget σ'.h) (ps := cellsP y) (fun i hi => ha i (by simp [hi]))
      have e2 := frz_loc (g := hget σ.h) (g' := hget σ'.h) (l := f0s (cellsP y)) (fun i hi => ha i (by simp [hi]))
      refine got_mk ((ha id (by simp)).trans hob) ?_
      refine got_mk (e1.trans hds) ?_
      exact ⟨hs, e, he, rfl, rfl, by rw [e2], rfl⟩
    · exact h.elim
  · rename_i id r i off
    obtain ⟨ob, hob, h⟩ := got_spec h
    split at h
    · obtain ⟨ds, hds, h⟩ := got_spec h
      obtain ⟨hs, es, hes, e, he, h⟩ := h
      refine ⟨_, _, _, h, fun σ' ha => ?_⟩
      have e1 := d0s_loc (g := hget σ.h) (g' := hget σ'.h) (ps := cellsP y) (fun i hi => ha i (by simp [hi]))
      have e2 := frz_loc (g := hget σ.h) (g' := hget σ'.h) (l := f0s (cellsP y)) (fun i hi => ha i (by simp [hi]))
      refine got_mk ((ha id (by simp)).trans hob) ?_
      refine got_mk (e1.trans hds) ?_
      exact ⟨hs, es, hes, e, he, rfl, rfl, by rw [e2], rfl⟩
    · exact h.elim
  · rename_i id ver i
    obtain ⟨ob, hob, h⟩ := got_spec h
    split at h
    · obtain ⟨hs, h⟩ := h
      split at h
      · obtain ⟨h1, es, hes, h⟩ := h
        exact ⟨_, _, _, h, fun σ' ha => got_mk ((ha id (by simp)).trans hob) ⟨hs, h1, es, hes, rfl, rfl, rfl, rfl⟩⟩
      · rename_i id1 ver1
        obtain ⟨ob1, hob1, h⟩ := got_spec h
        split at h
        · obtain ⟨h1, h⟩ := h
          exact ⟨_, _, _, h, fun σ' ha => got_mk ((ha id (by simp)).trans hob) ⟨hs, got_mk ((ha _ (by simp)).trans hob1) ⟨h1, rfl, rfl, rfl, rfl⟩⟩⟩
        · exact h.elim
      · exact h.elim
    · exact h.elim
  · exact h.elim
theorem idxV_loc {T : Ty} {x ix : PV} {K : Kt} (h : idxV P T x ix σ K) : ∃ r U Rd, K σ r U Rd ∧ ∀ σ', (∀ id ∈ Rd, hget σ'.h id = hget σ.h id) → idxV P T x ix σ' (Same σ' r U Rd) := by
  unfold idxV at h ⊢
  split at h
  · split at h
    · rename_i hslc
      simp only [if_pos hslc]
      split at h
      · rename_i id ver
        obtain ⟨ob, hob, h⟩ := got_spec h
        split at h
        · obtain ⟨E, hE, h⟩ := got_spec h
          obtain ⟨hs, h⟩ := h
          exact ⟨_, _, _, h, fun σ' ha => got_mk ((ha id (by simp)).trans hob) (got_mk hE ⟨hs, rfl, rfl, rfl, rfl⟩)⟩
        · exact h.elim
      · rename_i id ver
        obtain ⟨ob, hob, h⟩ := got_spec h
        split at h
        · obtain ⟨E, hE, h⟩ := got_spec h
          obtain ⟨hs, h⟩ := h
          exact ⟨_, _, _, h, fun σ' ha => got_mk ((ha id (by simp)).trans hob) (got_mk hE ⟨hs, rfl, rfl, rfl, rfl⟩)⟩
        · exact h.elim
      · rename_i id ver o n
        obtain ⟨ob, hob, h⟩ := got_spec h
        split at h
        · obtain ⟨E, hE, h⟩ := got_spec h
          obtain ⟨hs, h⟩ := h
          exact ⟨_, _, _, h, fun σ' ha => got_mk ((ha id (by simp)).trans hob) (got_mk hE ⟨hs, rfl, rfl, rfl, rfl⟩)⟩
        · exact h.elim
      · rename_i id r
        obtain ⟨ob, hob, h⟩ := got_spec h
        split at h
        · obtain ⟨E, hE, h⟩ := got_spec h
          obtain ⟨es, hes, hs, h⟩ := h
          exact ⟨_, _, _, h, fun σ' ha => got_mk ((ha id (by simp)).trans hob) (got_mk hE ⟨es, hes, hs, rfl, rfl, rfl, rfl⟩)⟩
        · exact h.elim
      · obtain ⟨E, hE, h⟩ := got_spec h
        obtain ⟨hs, e, he, hs2, h⟩ := h
        exact ⟨_, _, _, h, fun σ' ha => by rw [hE]; exact ⟨hs, e, he, hs2, rfl, rfl, rfl, rfl⟩⟩
      · obtain ⟨E, hE, h⟩ := got_spec h
        obtain ⟨hs, h⟩ := h
        exact ⟨_, _, _, h, fun σ' ha => got_mk hE ⟨hs, rfl, rfl, rfl, rfl⟩⟩
      · exact h.elim
    · exact h.elim
  · exact h.elim
theorem appV_loc {T : Ty} {s x : PV} {K : Kt} (h : appV P T s x nid σ K) : ∃ r U Rd, K σ r U Rd ∧ ∀ σ', (∀ id ∈ Rd, hget σ'.h id = hget σ.h id) → appV P T s x nid σ' (Same σ' r U Rd) := by
  unfold appV at h ⊢
  obtain ⟨E, hE, hs, h⟩ := got_spec h
  split at h
  · obtain ⟨ns, hns, hs2, h⟩ := got_spec h
    refine ⟨_, _, _, h, fun σ' ha => ?_⟩
    have e2 := frz_loc (g := hget σ.h) (g' := hget σ'.h) (l := fa x) (fun i hi => ha i (fa_sub i hi))
    exact got_mk hE ⟨hs, got_mk ((els_loc (g := hget σ.h) (fun i hi => ha i hi)).trans hns) ⟨hs2, rfl, rfl, by rw [e2], rfl⟩⟩
  · obtain ⟨ob, hob, h⟩ := got_spec h
    split at h
    · obtain ⟨ns, hns, hs2, h⟩ := got_spec h
      refine ⟨_, _, _, h, fun σ' ha => ?_⟩
      have e2 := frz_loc (g := hget σ.h) (g' := hget σ'.h) (l := fa x) (fun i hi => ha i (by simp [fa_sub i hi]))
      exact got_mk hE ⟨hs, got_mk ((ha _ (by simp)).trans hob) (got_mk ((els_loc (g := hget σ.h) (fun i hi => ha i (by simp [hi]))).trans hns) ⟨hs2, rfl, rfl, by rw [e2], rfl⟩)⟩
    · exact h.elim
  · obtain ⟨ob, hob, h⟩ := got_spec h
    split at h
    · obtain ⟨hs2, h⟩ := h
      split at h
      · obtain ⟨ob1, hob1, h⟩ := got_spec h
        split at h
        · obtain ⟨hs3, h⟩ := h
          exact ⟨_, _, _, h, fun σ' ha => got_mk hE ⟨hs, got_mk ((ha _ (by simp)).trans hob) ⟨hs2, got_mk ((ha _ (by simp)).trans hob1) ⟨hs3, rfl, rfl, rfl, rfl⟩⟩⟩⟩
        · exact h.elim
      · exact h.elim
    · exact h.elim
  · obtain ⟨ob, hob, h⟩ := got_spec h
    split at h
    · obtain ⟨ns, hns, es, hes, hs2, h⟩ := got_spec h
      refine ⟨_, _, _, h, fun σ' ha => ?_⟩
      exact got_mk hE ⟨hs, got_mk ((ha _ (by simp)).trans hob) (got_mk ((els_loc (g := hget σ.h) (fun i hi => by rw [hs2.2.2.2.2.2.2] at hi; cases hi)).trans hns) ⟨es, hes, hs2, rfl, rfl, rfl, rfl⟩)⟩
    · exact h.elim
  · exact h.elim

theorem copyV_loc {T : Ty} {s x : PV} {K : Kt} (h : copyV P T s x σ K) : ∃ r U Rd, K σ r U Rd ∧ ∀ σ', (∀ id ∈ Rd, hget σ'.h id = hget σ.h id) → copyV P T s x σ' (Same σ' r U Rd) := by
  unfold copyV at h ⊢
  obtain ⟨E, hE, hs, h⟩ := got_spec h
  split at h
  · obtain ⟨ob, hob, h⟩ := got_spec h
    split at h
    · obtain ⟨ns, hns, hs2, h⟩ := got_spec h
      refine ⟨_, _, _, h, fun σ' ha => ?_⟩
      have e2 := frz_loc (g := hget σ.h) (g' := hget σ'.h) (l := fa x) (fun i hi => ha i (by simp [fa_sub i hi]))
      exact got_mk hE ⟨hs, got_mk ((ha _ (by simp)).trans hob) (got_mk ((els_loc (g := hget σ.h) (fun i hi => ha i (by simp [hi]))).trans hns) ⟨hs2, rfl, rfl, by rw [e2], rfl⟩)⟩
    · exact h.elim
  · exact h.elim
theorem map_ev {σ' : St} {l : List Operand} (h : ∀ x ∈ l, ev σ'.t x = ev σ.t x) : l.map (ev σ'.t) = l.map (ev σ.t) := List.map_congr_left h

theorem callV_loc {c : Call} {K : Kt} (h : callV P c nid σ K) : ∃ r U Rd, K σ r U Rd ∧ ∀ σ', (∀ x ∈ c.operands.toList, ev σ'.t x = ev σ.t x) → (∀ id ∈ Rd, hget σ'.h id = hget σ.h id) → callV P c nid σ' (Same σ' r U Rd) := by
  have hop : ∀ σ' : St, (∀ x ∈ c.operands.toList, ev σ'.t x = ev σ.t x) → ∀ x ∈ c.args.toList, ev σ'.t x = ev σ.t x := fun σ' h x hx => h x (by
    unfold Call.operands
    rw [Array.toList_append]
    exact List.mem_append_right _ hx)
  unfold callV at h ⊢
  cases hc : c.callee with
  | invoke x y => simp only [hc] at h
  | value f =>
    simp only [hc] at h ⊢
    have hf : ∀ σ' : St, (∀ x ∈ c.operands.toList, ev σ'.t x = ev σ.t x) → ev σ'.t f = ev σ.t f := fun σ' h => h f (by unfold Call.operands; simp [hc])
    split at h
    · rename_i g caps hev
      rcases h with h | ⟨hs, r, h', hcall, hhas, hK⟩
      · obtain ⟨as, has, h⟩ := got_spec h
        obtain ⟨r, hp, hlen, h⟩ := h
        refine ⟨_, _, _, h, fun σ' ha hb => ?_⟩
        have hm := map_ev (hop σ' ha)
        obtain ⟨e1, e2⟩ := a2s_loc (g := hget σ.h) (g' := hget σ'.h) (ps := c.args.toList.map (ev σ.t) ++ caps) (fun i hi => hb i (by simp [hi])) (fun i hi => hb i (by simp [hi]))
        have e3 := frz_loc (g := hget σ.h) (g' := hget σ'.h) (l := g2s (hget σ.h) (c.args.toList.map (ev σ.t) ++ caps)) (fun i hi => hb i (by simp [hi]))
        rw [hf σ' ha, hev]
        refine .inl (got_mk (by rw [hm]; exact e1.trans has) ⟨r, hp, hlen, rfl, rfl, by rw [hm, e2, e3], by rw [hm, e2]⟩)
      · refine ⟨_, _, _, hK, fun σ' ha hb => ?_⟩
        have hm := map_ev (hop σ' ha)
        rw [hf σ' ha, hev]
        exact .inr ⟨hs, r, h', by rw [hm]; exact hcall, hasH_loc hb hhas, rfl, rfl, rfl, rfl⟩
    · exact h.elim
  | builtin b =>
    cases b with
    | len =>
      simp only [hc] at h ⊢
      split at h
      · rename_i x t hx ht
        obtain ⟨T, hT, h⟩ := got_spec h
        obtain ⟨es, hes, h⟩ := got_spec h
        obtain ⟨hs, h⟩ := h
        refine ⟨_, _, _, h, fun σ' ha hb => ?_⟩
        have hm := hop σ' ha x (by rw [hx]; simp)
        exact got_mk hT (got_mk (by rw [hm]; exact (len_loc (g := hget σ.h) (fun i hi => hb i hi)).trans hes) ⟨hs, rfl, rfl, rfl, by rw [hm]⟩)
      · exact h.elim
    | append =>
      simp only [hc] at h ⊢
      split at h
      · rename_i s x t t' hx ht
        obtain ⟨T, hT, hs, h⟩ := got_spec h
        obtain ⟨r, U, Rd, h1, h2⟩ := appV_loc h
        refine ⟨r, U, Rd, h1, fun σ' ha hb => ?_⟩
        have h3 := h2 σ' hb
        rw [← hop σ' ha s (by rw [hx]; simp), ← hop σ' ha x (by rw [hx]; simp)] at h3
        exact got_mk hT ⟨hs, h3⟩
      · exact h.elim
    | copy =>
      simp only [hc] at h ⊢
      split at h
      · rename_i s x t t' hx ht
        obtain ⟨T, hT, h⟩ := got_spec h
        obtain ⟨r, U, Rd, h1, h2⟩ := copyV_loc h
        refine ⟨r, U, Rd, h1, fun σ' ha hb => ?_⟩
        have h3 := h2 σ' hb
        rw [← hop σ' ha s (by rw [hx]; simp), ← hop σ' ha x (by rw [hx]; simp)] at h3
        exact got_mk hT h3
      · exact h.elim
    | max =>
      simp only [hc] at h ⊢
      obtain ⟨m, hm, h⟩ := got_spec h
      exact ⟨_, _, _, h, fun σ' ha hb => got_mk (by rw [map_ev (hop σ' ha)]; exact hm) ⟨rfl, rfl, rfl, rfl⟩⟩
    | _ => simp only [hc] at h

theorem trunc_loc {g g' : Nat → Option Ob} {lo mx : Bool} {p : PV} (h : ∀ i ∈ f0 p, g' i = g i) : trunc g' lo mx p = trunc g lo mx p := by
  cases p with
  | sr id ver => simp only [trunc]; rw [h id (by simp [f0, fz])]
  | _ => rfl
theorem truncT_loc {g g' : Nat → Option Ob} {lo mx : Bool} {p : PV} (h : ∀ i ∈ f0 p, g' i = g i) : truncT g' lo mx p = truncT g lo mx p := by
  cases p with
  | st id ver => simp only [truncT]; rw [h id (by simp [f0, fz])]
  | _ => rfl
theorem vcOp_loc {K : Kt} (h : vcOp P o nid σ K) : ∃ r U Rd, K σ r U Rd ∧ ∀ σ', (∀ x ∈ o.op.operands.toList, ev σ'.t x = ev σ.t x) → (∀ id ∈ Rd, hget σ'.h id = hget σ.h id) → vcOp P o nid σ' (Same σ' r U Rd) := by
  unfold vcOp at h ⊢
  cases ho : o.op with
  | move x => simp only [ho] at h ⊢; exact ⟨_, _, _, h, fun σ' ha hb => by rw [ha x (by simp [Op.operands])]; exact ⟨rfl, rfl, rfl, rfl⟩⟩
  | assign x => simp only [ho] at h ⊢; exact ⟨_, _, _, h, fun σ' ha hb => by rw [ha x (by simp [Op.operands])]; exact ⟨rfl, rfl, rfl, rfl⟩⟩
  | pick c x y =>
    simp only [ho] at h ⊢
    split at h
    · rename_i b hb
      cases b with
      | true => exact ⟨_, _, _, h.1 rfl, fun σ' ha _ => by rw [ha c (by simp [Op.operands]), hb]; exact ⟨fun _ => ⟨rfl, ha x (by simp [Op.operands]), rfl, rfl⟩, fun e => by cases e⟩⟩
      | false => exact ⟨_, _, _, h.2 rfl, fun σ' ha _ => by rw [ha c (by simp [Op.operands]), hb]; exact ⟨fun e => (by cases e), fun _ => ⟨rfl, ha y (by simp [Op.operands]), rfl, rfl⟩⟩⟩
    · exact h.elim
  | extract x i =>
    simp only [ho] at h ⊢
    split at h
    · rename_i vs hv
      obtain ⟨hs, h⟩ := h
      exact ⟨_, _, _, h, fun σ' ha _ => by rw [ha x (by simp [Op.operands]), hv]; exact ⟨hs, rfl, rfl, rfl, rfl⟩⟩
    · exact h.elim
  | alloc t =>
    simp only [ho] at h ⊢
    obtain ⟨T, hT, hs, h⟩ := got_spec h
    exact ⟨_, _, _, h, fun σ' _ _ => got_mk hT ⟨hs, rfl, rfl, rfl, rfl⟩⟩
  | box t x =>
    simp only [ho] at h ⊢
    obtain ⟨hs, h⟩ := h
    exact ⟨_, _, _, h, fun σ' ha _ => by rw [ha x (by simp [Op.operands])]; exact ⟨hs, rfl, rfl, by rw [ha x (by simp [Op.operands])], rfl⟩⟩
  | build t ps =>
    simp only [ho] at h ⊢
    obtain ⟨T, hT, hs, h⟩ := got_spec h
    obtain ⟨pl, hpl, h⟩ := got_spec h
    obtain ⟨cs, hcs, h⟩ := got_spec h
    refine ⟨_, _, _, h, fun σ' ha _ => ?_⟩
    have e0 : ∀ p ∈ ps.toList, ev σ'.t p.2 = ev σ.t p.2 := fun p hp => ha p.2 (by simp only [Op.operands, List.mem_map]; exact ⟨p, hp, rfl⟩)
    have e1 : (ps.toList.map fun p => ev σ'.t p.2) = ps.toList.map fun p => ev σ.t p.2 := List.map_congr_left e0
    have e2 : (ps.toList.map fun p => (p.1, ev σ'.t p.2)) = ps.toList.map fun p => (p.1, ev σ.t p.2) := List.map_congr_left fun p hp => by rw [e0 p hp]
    exact got_mk hT ⟨by rw [e1]; exact hs, got_mk hpl (got_mk (by rw [e2]; exact hcs) ⟨rfl, rfl, rfl, rfl⟩)⟩
  | buildSlice t len ps =>
    simp only [ho] at h ⊢
    obtain ⟨T, hT, h⟩ := got_spec h
    obtain ⟨E, hE, h⟩ := got_spec h
    by_cases hlit : litT E = true ∧ 0 < len
    · rw [if_pos hlit] at h
      obtain ⟨hs, h⟩ := h
      refine ⟨_, _, _, h, fun σ' ha hb => ?_⟩
      have e0 : ∀ p ∈ ps.toList, ev σ'.t p.2 = ev σ.t p.2 := fun p hp => ha p.2 (by simp only [Op.operands, List.mem_map]; exact ⟨p, hp, rfl⟩)
      have e1 : (ps.toList.map fun p => ev σ'.t p.2) = ps.toList.map fun p => ev σ.t p.2 := List.map_congr_left e0
      refine got_mk hT (got_mk hE ?_)
      rw [if_pos hlit]
      exact ⟨⟨hs.1, hs.2.1, hs.2.2.1, hs.2.2.2.1, hs.2.2.2.2.1, fun p hp => by rw [e0 p hp]; exact hs.2.2.2.2.2 p hp⟩, rfl, by rw [e1], rfl, rfl⟩
    rw [if_neg hlit] at h
    obtain ⟨ds, hds, hs, h⟩ := got_spec h
    refine ⟨_, _, _, h, fun σ' ha hb => ?_⟩
    have e0 : ∀ p ∈ ps.toList, ev σ'.t p.2 = ev σ.t p.2 := fun p hp => ha p.2 (by simp only [Op.operands, List.mem_map]; exact ⟨p, hp, rfl⟩)
    have e1 : (ps.toList.map fun p => ev σ'.t p.2) = ps.toList.map fun p => ev σ.t p.2 := List.map_congr_left e0
    have e2 := d0s_loc (g := hget σ.h) (g' := hget σ'.h) (ps := (ps.toList.map fun p => ev σ.t p.2).flatMap cellsP) hb
    have e3 := frz_loc (g := hget σ.h) (g' := hget σ'.h) (l := f0s ((ps.toList.map fun p => ev σ.t p.2).flatMap cellsP)) hb
    have hsub : ∀ p ∈ ps.toList, ∀ i ∈ f0s (cellsP (ev σ.t p.2)), i ∈ f0s ((ps.toList.map fun p => ev σ.t p.2).flatMap cellsP) := fun p hp i hi => by
      have key : ∀ (A B : List PV), (∀ q ∈ A, q ∈ B) → ∀ i ∈ f0s A, i ∈ f0s B := fun A B hAB i hi => by
        induction A with
        | nil => cases hi
        | cons q A ih =>
          rcases List.mem_append.1 (show i ∈ f0 q ++ f0s A from hi) with h1 | h1
          · have hq := hAB q List.mem_cons_self
            clear ih hAB
            induction B with
            | nil => cases hq
            | cons r B ih2 =>
              rcases List.mem_cons.1 hq with rfl | hq
              · exact List.mem_append_left _ h1
              · exact List.mem_append_right _ (ih2 hq)
          · exact ih (fun r hr => hAB r (List.mem_cons_of_mem _ hr)) h1
      exact key _ _ (fun q hq => List.mem_flatMap.2 ⟨_, List.mem_map.2 ⟨p, hp, rfl⟩, hq⟩) i hi
    have e4 : (ps.toList.map fun p => ((d0s (hget σ'.h) (cellsP (ev σ'.t p.2))).getD [])) = ps.toList.map fun p => ((d0s (hget σ.h) (cellsP (ev σ.t p.2))).getD []) := List.map_congr_left fun p hp => by
      rw [e0 p hp, d0s_loc (g := hget σ.h) (fun i hi => hb i (hsub p hp i hi))]
    refine got_mk hT (got_mk hE ?_)
    rw [if_neg hlit]
    refine (got_mk (by rw [e1]; exact e2.trans hds) ⟨⟨hs.1, hs.2.1, hs.2.2.1, hs.2.2.2.1, fun p hp => by rw [e0 p hp]; exact hs.2.2.2.2.1 p hp, hs.2.2.2.2.2.1, by rw [e1]; exact hs.2.2.2.2.2.2⟩, rfl, rfl, ?_, by rw [e1]⟩)
    rw [e1, e3, e4]
  | load t x =>
    simp only [ho] at h ⊢
    obtain ⟨T, hT, h⟩ := got_spec h
    obtain ⟨r, U, Rd, h1, h2⟩ := loadV_loc h
    exact ⟨r, U, Rd, h1, fun σ' ha hb => got_mk hT (by rw [ha x (by simp [Op.operands])]; exact h2 σ' hb)⟩
  | store t x y =>
    simp only [ho] at h ⊢
    obtain ⟨T, hT, h⟩ := got_spec h
    obtain ⟨r, U, Rd, h1, h2⟩ := storeV_loc h
    exact ⟨r, U, Rd, h1, fun σ' ha hb => got_mk hT (by rw [ha x (by simp [Op.operands]), ha y (by simp [Op.operands])]; exact h2 σ' hb)⟩
  | binOp op t x y t' =>
    simp only [ho] at h ⊢
    obtain ⟨v, h1, h2⟩ := binV_loc h
    exact ⟨_, _, _, h1, fun σ' ha _ => by rw [ha x (by simp [Op.operands]), ha y (by simp [Op.operands])]; exact binV_mono (h2 σ') (fun s v' ⟨e1, e2⟩ => ⟨e1, e2, rfl, rfl⟩)⟩
  | unOp op t x =>
    simp only [ho] at h ⊢
    obtain ⟨v, h1, h2⟩ := unV_loc h
    exact ⟨_, _, _, h1, fun σ' ha _ => by rw [ha x (by simp [Op.operands])]; exact unV_mono (h2 σ') (fun s v' ⟨e1, e2⟩ => ⟨e1, e2, rfl, rfl⟩)⟩
  | convert s d x =>
    simp only [ho] at h ⊢
    obtain ⟨v, h1, h2⟩ := convV_loc h
    exact ⟨_, _, _, h1, fun σ' ha _ => by rw [ha x (by simp [Op.operands])]; exact convV_mono (h2 σ') (fun s v' ⟨e1, e2⟩ => ⟨e1, e2, rfl, rfl⟩)⟩
  | nilCheck x =>
    simp only [ho] at h ⊢
    split at h
    · rename_i id ver i off he
      obtain ⟨ob, hob, h⟩ := got_spec h
      split at h
      · exact ⟨_, _, _, h, fun σ' ha hb => by rw [ha x (by simp [Op.operands]), he]; exact got_mk ((hb id (by simp)).trans hob) ⟨rfl, rfl, rfl, rfl⟩⟩
      · exact h.elim
    · rename_i cs he
      exact ⟨_, _, _, h, fun σ' ha hb => by rw [ha x (by simp [Op.operands]), he]; exact ⟨rfl, rfl, rfl, rfl⟩⟩
    · rename_i cs he
      exact ⟨_, _, _, h, fun σ' ha hb => by rw [ha x (by simp [Op.operands]), he]; exact ⟨rfl, rfl, rfl, rfl⟩⟩
    · rename_i f cs he
      exact ⟨_, _, _, h, fun σ' ha hb => by rw [ha x (by simp [Op.operands]), he]; exact ⟨rfl, rfl, rfl, rfl⟩⟩
    · exact h.elim
  | index t x i =>
    simp only [ho] at h ⊢
    split at h
    · rename_i s k z e1 e2
      obtain ⟨hs, h⟩ := h
      obtain ⟨b, hb', h⟩ := got_spec h
      exact ⟨_, _, _, h, fun σ' ha hb => by rw [ha x (by simp [Op.operands]), ha i (by simp [Op.operands]), e1, e2]; exact ⟨hs, got_mk hb' ⟨rfl, rfl, rfl, rfl⟩⟩⟩
    · rename_i cs k z e1 e2
      obtain ⟨e, he, hs, h⟩ := got_spec h
      exact ⟨_, _, _, h, fun σ' ha hb => by rw [ha x (by simp [Op.operands]), ha i (by simp [Op.operands]), e1, e2]; exact got_mk he ⟨hs, rfl, rfl, rfl, rfl⟩⟩
    · rename_i cs k z e1 e2
      obtain ⟨e, he, hs, h⟩ := got_spec h
      exact ⟨_, _, _, h, fun σ' ha hb => by rw [ha x (by simp [Op.operands]), ha i (by simp [Op.operands]), e1, e2]; exact got_mk he ⟨hs, rfl, rfl, rfl, rfl⟩⟩
    · exact h.elim
  | field s x f =>
    simp only [ho] at h ⊢
    obtain ⟨cs, hcs, h⟩ := got_spec h
    obtain ⟨e, he, hs, h⟩ := got_spec h
    exact ⟨_, _, _, h, fun σ' ha hb => by rw [ha x (by simp [Op.operands])]; exact got_mk hcs (got_mk he ⟨hs, rfl, rfl, rfl, rfl⟩)⟩
  | makeFunc fn first caps =>
    simp only [ho] at h ⊢
    split at h
    · obtain ⟨hs, h⟩ := h
      refine ⟨_, _, _, h, fun σ' ha _ => ?_⟩
      refine ⟨hs, rfl, ?_, rfl, rfl⟩
      show PV.fn _ _ = PV.fn _ _
      rw [map_ev (fun x hx => ha x (by simp only [Op.operands, Array.toList_append]; exact List.mem_append_right _ hx))]
    · exact h.elim
  | makeSlice t l c =>
    simp only [ho] at h ⊢
    split at h
    · rename_i k1 n k2 m e1 e2
      obtain ⟨T, hT, h⟩ := got_spec h
      obtain ⟨E, hE, hs, h⟩ := got_spec h
      refine ⟨_, _, _, h, fun σ' ha _ => ?_⟩
      rw [ha l (by simp [Op.operands]), ha c (by simp [Op.operands]), e1, e2]
      exact got_mk hT (got_mk hE ⟨hs, rfl, rfl, rfl, rfl⟩)
    · exact h.elim
  | fieldAddr s x f =>
    simp only [ho] at h ⊢
    obtain ⟨T, hT, h⟩ := got_spec h
    obtain ⟨fo, hfo, h⟩ := got_spec h
    split at h
    · rename_i id ver i off he
      obtain ⟨ob, hob, h⟩ := got_spec h
      split at h
      · obtain ⟨hs, h⟩ := h
        refine ⟨_, _, _, h, fun σ' ha hb => ?_⟩
        refine got_mk hT (got_mk hfo ?_)
        simp only [ha x (by simp [Op.operands]), he]
        exact got_mk ((hb id (by simp)).trans hob) ⟨hs, rfl, rfl, rfl, rfl⟩
      · obtain ⟨hs, h⟩ := h
        refine ⟨_, _, _, h, fun σ' ha hb => ?_⟩
        refine got_mk hT (got_mk hfo ?_)
        simp only [ha x (by simp [Op.operands]), he]
        exact got_mk ((hb id (by simp)).trans hob) ⟨hs, rfl, rfl, rfl, rfl⟩
      · exact h.elim
    · rename_i id r i off he
      obtain ⟨ob, hob, h⟩ := got_spec h
      split at h
      · obtain ⟨es, hes, hs, h⟩ := h
        refine ⟨_, _, _, h, fun σ' ha hb => ?_⟩
        refine got_mk hT (got_mk hfo ?_)
        simp only [ha x (by simp [Op.operands]), he]
        exact got_mk ((hb id (by simp)).trans hob) ⟨es, hes, hs, rfl, rfl, rfl, rfl⟩
      · exact h.elim
    · rename_i cs he
      obtain ⟨hs, h⟩ := h
      refine ⟨_, _, _, h, fun σ' ha hb => ?_⟩
      refine got_mk hT (got_mk hfo ?_)
      simp only [ha x (by simp [Op.operands]), he]
      exact ⟨hs, rfl, rfl, rfl, rfl⟩
    · exact h.elim
  | indexAddr t x ix =>
    simp only [ho] at h ⊢
    obtain ⟨T, hT, h⟩ := got_spec h
    obtain ⟨r, U, Rd, h1, h2⟩ := idxV_loc h
    exact ⟨r, U, Rd, h1, fun σ' ha hb => got_mk hT (by rw [ha x (by simp [Op.operands]), ha ix (by simp [Op.operands])]; exact h2 σ' hb)⟩
  | slice t x lo hi mx =>
    simp only [ho] at h ⊢
    obtain ⟨T, hT, h⟩ := got_spec h
    obtain ⟨es, hes, h⟩ := got_spec h
    obtain ⟨l, hl, h⟩ := got_spec h
    obtain ⟨hh, hhi, h⟩ := got_spec h
    obtain ⟨m, hmx, h⟩ := got_spec h
    obtain ⟨E, hE, hs, h⟩ := got_spec h
    have o1 : ∀ σ' : St, (∀ q ∈ (Op.slice t x lo hi mx).operands.toList, ev σ'.t q = ev σ.t q) → ∀ y : Option Operand, (∀ z, y = some z → z ∈ (Op.slice t x lo hi mx).operands.toList) → y.map (ev σ'.t) = y.map (ev σ.t) := fun σ' ha y hy => by
      cases y with
      | none => rfl
      | some z => simp only [Option.map_some]; rw [ha z (hy z rfl)]
    have go : ∀ σ' : St, (∀ q ∈ (Op.slice t x lo hi mx).operands.toList, ev σ'.t q = ev σ.t q) → lo.map (ev σ'.t) = lo.map (ev σ.t) ∧ hi.map (ev σ'.t) = hi.map (ev σ.t) ∧ mx.map (ev σ'.t) = mx.map (ev σ.t) ∧ ev σ'.t x = ev σ.t x := fun σ' ha =>
      ⟨o1 σ' ha lo (fun z hz => by subst hz; simp [Op.operands]), o1 σ' ha hi (fun z hz => by subst hz; simp [Op.operands]), o1 σ' ha mx (fun z hz => by subst hz; simp [Op.operands]), ha x (by simp [Op.operands])⟩
    have fzf : ∀ i ∈ fz (ev σ.t x), i ∈ f0 (ev σ.t x) := fun i hi => by
      generalize ev σ.t x = q at hi
      cases q <;> first | exact hi | cases hi
    split at h
    · rename_i id ver a2 ht
      obtain ⟨he, _⟩ := trunc_spec ht
      refine ⟨_, _, _, h, fun σ' ha hb => ?_⟩
      obtain ⟨m1, m2, m3, e0⟩ := go σ' ha
      have hid : ∀ i ∈ f0 (ev σ.t x), hget σ'.h i = hget σ.h i := fun i hi => by rw [he] at hi; exact hb i hi
      refine got_mk hT (got_mk (by rw [e0]; exact (len_loc (g := hget σ.h) (p := ev σ.t x) (fun i hi => hid i (fzf i hi))).trans hes) (got_mk (by rw [m1]; exact hl) (got_mk (by rw [m2]; exact hhi) (got_mk (by rw [m3]; exact hmx) (got_mk hE ⟨hs, ?_⟩)))))
      dsimp only
      rw [e0, trunc_loc hid, ht]
      exact ⟨rfl, rfl, rfl, rfl⟩
    rename_i htn
    split at h
    · rename_i id ver a2 ht
      obtain ⟨he, _⟩ := truncT_spec ht
      obtain ⟨hs2, h⟩ := h
      refine ⟨_, _, _, h, fun σ' ha hb => ?_⟩
      obtain ⟨m1, m2, m3, e0⟩ := go σ' ha
      have hid : ∀ i ∈ f0 (ev σ.t x), hget σ'.h i = hget σ.h i := fun i hi => by rw [he] at hi; exact hb i hi
      refine got_mk hT (got_mk (by rw [e0]; exact (len_loc (g := hget σ.h) (p := ev σ.t x) (fun i hi => hid i (fzf i hi))).trans hes) (got_mk (by rw [m1]; exact hl) (got_mk (by rw [m2]; exact hhi) (got_mk (by rw [m3]; exact hmx) (got_mk hE ⟨hs, ?_⟩)))))
      dsimp only
      rw [e0, trunc_loc hid, htn]
      dsimp only
      rw [truncT_loc hid, ht]
      exact ⟨hs2, rfl, rfl, rfl, rfl⟩
    rename_i htn2
    split at h
    · rename_i id ver he
      obtain ⟨hs2, h⟩ := h
      refine ⟨_, _, _, h, fun σ' ha hb => ?_⟩
      obtain ⟨m1, m2, m3, e0⟩ := go σ' ha
      refine got_mk hT (got_mk (by rw [e0, he]; rw [he] at hes; exact (len_loc (g := hget σ.h) (p := .st id ver) hb).trans hes) (got_mk (by rw [m1]; exact hl) (got_mk (by rw [m2]; exact hhi) (got_mk (by rw [m3]; exact hmx) (got_mk hE ⟨hs, ?_⟩)))))
      dsimp only
      rw [e0, truncT_loc (g := hget σ.h) (fun i hi => hb i (by rw [he] at hi; exact hi)), htn2, he]
      simp only [trunc]
      exact ⟨hs2, rfl, rfl, rfl, rfl⟩
    · rename_i hne
      obtain ⟨es2, hes2, hs2, h⟩ := got_spec h
      refine ⟨_, _, _, h, fun σ' ha hb => ?_⟩
      obtain ⟨m1, m2, m3, e0⟩ := go σ' ha
      have e1 := els_loc (g := hget σ.h) (g' := hget σ'.h) (p := ev σ.t x) hb
      have e2 := frz_loc (g := hget σ.h) (g' := hget σ'.h) (l := f0 (ev σ.t x)) hb
      refine got_mk hT (got_mk (by rw [e0]; exact (len_loc (g := hget σ.h) (p := ev σ.t x) (fun i hi => hb i (fzf i hi))).trans hes) (got_mk (by rw [m1]; exact hl) (got_mk (by rw [m2]; exact hhi) (got_mk (by rw [m3]; exact hmx) (got_mk hE ⟨hs, ?_⟩)))))
      dsimp only
      rw [e0, trunc_loc (fun i hi => hb i hi), htn]
      dsimp only
      rw [truncT_loc (fun i hi => hb i hi), htn2]
      dsimp only
      split
      · rename_i id ver he
        exact absurd he (hne id ver)
      · exact got_mk (e1.trans hes2) ⟨hs2, rfl, rfl, by rw [e2], rfl⟩
  | call c =>
    simp only [ho] at h ⊢
    obtain ⟨r, U, Rd, h1, h2⟩ := callV_loc h
    exact ⟨r, U, Rd, h1, fun σ' ha hb => h2 σ' (fun x hx => ha x hx) hb⟩
  | _ => simp only [ho] at h
end
end Go.Pm
/-
  The pure machine: regions that draw their order.
-/
set_option linter.unusedSimpArgs false
set_option linter.unusedVariables false
namespace Go.Pm
open Go.RowKit

/-! ### overlays -/
section
variable {α : Type}
def lk : List (Nat × α) → Nat → Option α
  | [], _ => none
  | (u, p) :: l, t => if u = t then some p else lk l t
def ovr : List (List (Nat × α)) → (Nat → Bool) → Nat → List (Nat × α) → List (Nat × α)
  | [], _, _, b => b
  | u :: us, L, k, b => ovr us L (k + 1) (if L k then u ++ b else b)
theorem lk_append (u b : List (Nat × α)) (id : Nat) : lk (u ++ b) id = if id ∈ u.map (·.1) then lk u id else lk b id := by
  induction u with
  | nil => simp
  | cons x u ih =>
    obtain ⟨k, p⟩ := x
    simp only [List.cons_append, lk, List.map_cons, List.mem_cons, ih]
    by_cases h : k = id
    · simp [h]
    · have h' : ¬ id = k := fun e => h e.symm
      simp only [if_neg h]
      by_cases hm : id ∈ u.map (·.1)
      · rw [if_pos hm, if_pos (.inr hm)]
      · rw [if_neg hm, if_neg (fun x => x.elim h' hm)]
theorem ovr_agree {L1 L2 : Nat → Bool} {id : Nat} : ∀ (us : List (List (Nat × α))) (k0 : Nat) (b1 b2 : List (Nat × α)), (∀ k u, us[k]? = some u → id ∈ u.map (·.1) → L1 (k0 + k) = L2 (k0 + k)) → lk b1 id = lk b2 id →
    lk (ovr us L1 k0 b1) id = lk (ovr us L2 k0 b2) id
  | [], _, _, _, _, hb => hb
  | u :: us, k0, b1, b2, h, hb => by
    simp only [ovr]
    refine ovr_agree us (k0 + 1) _ _ (fun k v hv hi => by have := h (k + 1) v hv hi; rw [show k0 + (k + 1) = k0 + 1 + k by omega] at this; exact this) ?_
    have h0 := h 0 u rfl
    by_cases hi : id ∈ u.map (·.1)
    · have := h0 hi
      simp only [Nat.add_zero] at this
      rw [this]
      split
      · rw [lk_append, lk_append, if_pos hi, if_pos hi]
      · exact hb
    · have e : ∀ (c : Bool) (b : List (Nat × α)), lk (if c then u ++ b else b) id = lk b id := fun c b => by cases c <;> simp [lk_append, hi]
      rw [e, e, hb]
theorem ovr_last {L : Nat → Bool} {id : Nat} : ∀ (us : List (List (Nat × α))) (k0 i : Nat) (b u : List (Nat × α)), us[i]? = some u → id ∈ u.map (·.1) → L (k0 + i) = true → (∀ k v, i < k → us[k]? = some v → id ∈ v.map (·.1) → L (k0 + k) = false) →
    lk (ovr us L k0 b) id = lk u id
  | [], _, _, _, _, h, _, _, _ => by cases h
  | v :: us, k0, 0, b, u, h, hi, hL, hlast => by
    cases h
    simp only [ovr]
    rw [show L k0 = true by simpa using hL, if_pos rfl]
    rw [ovr_agree (L2 := fun _ => false) us (k0 + 1) _ (v ++ b) (fun k w hw hiw => by have := hlast (k + 1) w (by omega) hw hiw; rw [show k0 + (k + 1) = k0 + 1 + k by omega] at this; exact this) rfl]
    have : ∀ (us : List (List (Nat × α))) (k : Nat) (c : List (Nat × α)), ovr us (fun _ => false) k c = c := fun us => by
      induction us with
      | nil => intros; rfl
      | cons w us ih => intro k c; simp only [ovr]; exact ih _ _
    rw [this, lk_append, if_pos hi]
  | v :: us, k0, i + 1, b, u, h, hi, hL, hlast => by
    simp only [ovr]
    exact ovr_last us (k0 + 1) i _ u h hi (by rw [show k0 + 1 + i = k0 + (i + 1) by omega]; exact hL) (fun k w hk hw hiw => by have := hlast (k + 1) w (by omega) hw hiw; rw [show k0 + (k + 1) = k0 + 1 + k by omega] at this; exact this)
end
theorem hget_lk (h : Heap) (id : Nat) : hget h id = lk h id := by
  induction h with
  | nil => rfl
  | cons x h ih => obtain ⟨k, p⟩ := x; simp only [hget, lk, ih]
theorem get_lk (t : Slots) (u : Nat) : get t u = (lk t u).getD .any := by
  induction t with
  | nil => rfl
  | cons x t ih => obtain ⟨k, p⟩ := x; simp only [get, lk]; split <;> simp [ih]

/-! ### the steps of a region, as a list -/
structure Ent where
  skip : Bool
  r : PV
  U : Heap
  rd : List Nat
def slotU (o : Oper) (x : Ent) : Slots := match o.dst with
  | some d => [(d, x.r)]
  | none => []
def runL (L : Nat → Bool) : Nat → List Oper → List Ent → St → St
  | k, o :: os, x :: xs, σ => runL L (k + 1) os xs (if L k then stepS σ o.dst x.r x.U else σ)
  | _, _, _, σ => σ
theorem runL_t (L : Nat → Bool) : ∀ (l : List Oper) (xs : List Ent) (k : Nat) (σ : St), (runL L k l xs σ).t = ovr (List.zipWith slotU l xs) L k σ.t ∧ (runL L k l xs σ).h = ovr ((List.zipWith (fun _ x => x.U) l xs)) L k σ.h ∧ (runL L k l xs σ).m = σ.m ∧ (runL L k l xs σ).n = σ.n
  | [], _, k, σ => ⟨rfl, rfl, rfl, rfl⟩
  | _ :: _, [], k, σ => ⟨rfl, rfl, rfl, rfl⟩
  | o :: os, x :: xs, k, σ => by
    obtain ⟨h1, h2, h3, h4⟩ := runL_t L os xs (k + 1) (if L k then stepS σ o.dst x.r x.U else σ)
    simp only [runL, List.zipWith_cons_cons, ovr]
    refine ⟨h1.trans ?_, h2.trans ?_, h3.trans ?_, h4.trans ?_⟩
    · congr 1; cases L k with
      | true => simp only [if_true, stepS, putS, slotU]; cases o.dst <;> rfl
      | false => rfl
    · congr 1; cases L k <;> rfl
    · cases L k <;> rfl
    · cases L k <;> rfl

def GuardIs (ops : Array Oper) (g : Option (Nat × Bool)) (t : Slots) (b : Bool) : Prop := match g with
  | none => b = true
  | some (j, want) => ∃ d, (ops[j]?).bind (·.dst) = some d ∧ ((∃ c, get t d = .d (.v (.bool c)) ∧ b = (c == want)) ∨ ∃ vs, get t d = .d (.v (.tuple vs)) ∧ b = false)
def EntOk (P : Program) (ops : Array Oper) (o : Oper) (nid : Nat) (σ : St) (x : Ent) : Prop :=
  GuardIs ops o.guard σ.t (!x.skip) ∧ (x.skip = true → x.r = .d (.v undef) ∧ x.U = [] ∧ x.rd = []) ∧ (x.skip = false → vcOp P o nid σ (Same σ x.r x.U x.rd))

theorem guardV_is {ops : Array Oper} {g : Option (Nat × Bool)} {σ : St} {k1 k2 : St → Prop} (h : guardV ops g σ k1 k2) : (GuardIs ops g σ.t true ∧ k1 σ) ∨ (GuardIs ops g σ.t false ∧ k2 σ) := by
  unfold guardV at h
  split at h
  · exact .inl ⟨rfl, h⟩
  · rename_i j want
    split at h
    · rename_i d hd
      split at h
      · rename_i c hc
        cases e : (c == want) with
        | true => exact .inl ⟨⟨d, hd, .inl ⟨c, hc, e.symm⟩⟩, h.1 e⟩
        | false => exact .inr ⟨⟨d, hd, .inl ⟨c, hc, e.symm⟩⟩, h.2 e⟩
      · rename_i vs hc
        exact .inr ⟨⟨d, hd, .inr ⟨vs, hc, rfl⟩⟩, h⟩
      · exact h.elim
    · exact h.elim

theorem opY_no {P : Program} {o : Oper} {nid : Nat} {σ : St} {K : Kt} (h : opY P noM o nid σ K) : vcOp P o nid σ K := by
  unfold opY at h
  split at h
  · exact h.elim
  · exact h
theorem chain_of {P : Program} {ops : Array Oper} {kk : St → Log → Prop} : ∀ (l : List Oper) (i : Nat) (log : Log) (σ : St), vcOps P noM ops l i log kk σ →
    ∃ xs : List Ent, xs.length = l.length ∧ kk (runL (fun _ => true) 0 l xs σ) (log ++ xs.map fun x => (x.rd, x.U.map (·.1))) ∧
      ∀ k o x, l[k]? = some o → xs[k]? = some x → dstOk σ.m o.dst ∧ EntOk P ops o (σ.n + 4 * (i + k)) (runL (fun _ => true) 0 (l.take k) (xs.take k) σ) x
  | [], i, log, σ, h => ⟨[], rfl, by rw [List.map_nil, List.append_nil]; exact h, fun k o x hk => by cases hk⟩
  | o :: os, i, log, σ, h => by
    have run0 : ∀ (l : List Oper) (xs : List Ent) (k k' : Nat) (σ : St), runL (fun _ => true) k l xs σ = runL (fun _ => true) k' l xs σ := fun l => by
      induction l with
      | nil => intros; rfl
      | cons o l ih =>
        intro xs k k' σ
        cases xs with
        | nil => rfl
        | cons x xs => simp only [runL, if_true]; exact ih xs _ _ _
    obtain ⟨hd, h⟩ := h
    have fin : ∀ (x : Ent) (σ' : St), σ' = stepS σ o.dst x.r x.U → EntOk P ops o (σ.n + 4 * i) σ x → vcOps P noM ops os (i + 1) (log ++ [(x.rd, x.U.map (·.1))]) kk σ' → ∃ xs : List Ent, xs.length = (o :: os).length ∧ kk (runL (fun _ => true) 0 (o :: os) xs σ) (log ++ xs.map fun x => (x.rd, x.U.map (·.1))) ∧
      ∀ k o' x, (o :: os)[k]? = some o' → xs[k]? = some x → dstOk σ.m o'.dst ∧ EntOk P ops o' (σ.n + 4 * (i + k)) (runL (fun _ => true) 0 ((o :: os).take k) (xs.take k) σ) x := fun x σ' hσ hx hh => by
      subst hσ
      obtain ⟨xs, h1, h2, h3⟩ := chain_of os (i + 1) _ _ hh
      refine ⟨x :: xs, by simp [h1], ?_, fun k o' y hk hy => ?_⟩
      · rw [List.append_assoc] at h2
        simp only [runL, if_true, List.map_cons]
        rw [run0 os xs (0 + 1) 0]
        exact h2
      · cases k with
        | zero => cases hk; cases hy; exact ⟨hd, hx⟩
        | succ k =>
          obtain ⟨g1, g2⟩ := h3 k o' y hk hy
          refine ⟨g1, ?_⟩
          simp only [List.take_succ_cons, runL, if_true]
          rw [run0 _ _ (0 + 1) 0, show i + (k + 1) = i + 1 + k by omega]
          exact g2
    rcases guardV_is h with ⟨hg, h⟩ | ⟨hg, h⟩
    · obtain ⟨r, U, Rd, h1, h2⟩ := vcOp_loc (opY_no h)
      exact fin ⟨false, r, U, Rd⟩ _ rfl ⟨hg, fun e => (by cases e), fun _ => h2 σ (fun _ _ => rfl) (fun _ _ => rfl)⟩ h1
    · exact fin ⟨true, .d (.v undef), [], []⟩ _ rfl ⟨hg, fun _ => ⟨rfl, rfl, rfl⟩, fun e => by cases e⟩ h

/-! ### which operations an operation waits for -/
def befOf (acc : List Nat) (o : Oper) : Nat := o.after.toList.foldl (fun s e => if Region.binds .any e then s ||| (2 ^ e.on ||| acc.getD e.on 0) else s) 0
def befs : List Oper → List Nat → List Nat
  | [], acc => acc
  | o :: os, acc => befs os (acc ++ [befOf acc o])
theorem befOf_bit {acc : List Nat} {i : Nat} : ∀ (l : List Edge) (s : Nat), (l.foldl (fun s e => if Region.binds .any e then s ||| (2 ^ e.on ||| acc.getD e.on 0) else s) s).testBit i = true →
    s.testBit i = true ∨ ∃ e ∈ l, Region.binds .any e = true ∧ (e.on = i ∨ (acc.getD e.on 0).testBit i = true)
  | [], s, h => .inl h
  | e :: l, s, h => by
    simp only [List.foldl_cons] at h
    rcases befOf_bit l _ h with h1 | ⟨e', h1, h2⟩
    · by_cases hb : Region.binds .any e = true
      · rw [if_pos hb, Nat.testBit_or, Nat.testBit_or, Bool.or_eq_true, Bool.or_eq_true] at h1
        rcases h1 with h1 | h1 | h1
        · exact .inl h1
        · rw [Nat.testBit_two_pow] at h1
          exact .inr ⟨e, List.mem_cons_self, hb, .inl (by simpa using h1)⟩
        · exact .inr ⟨e, List.mem_cons_self, hb, .inr h1⟩
      · rw [if_neg hb] at h1
        exact .inl h1
    · exact .inr ⟨e', List.mem_cons_of_mem _ h1, h2⟩
/-- all that an operation waits for is there, and what that waits for -/
def closed (ops : List Oper) (L : Nat → Bool) : Prop := ∀ j o, ops[j]? = some o → L j = true → ∀ e ∈ o.after.toList, Region.binds .any e = true → L e.on = true
theorem befs_spec {ops : List Oper} {L : Nat → Bool} (hc : closed ops L) : ∀ (l done : List Oper) (acc : List Nat), ops = done ++ l → acc.length = done.length →
    (∀ j i, j < acc.length → (acc.getD j 0).testBit i = true → (∀ o, ops[j]? = some o → ∀ e ∈ o.after.toList, Region.binds .any e = true → L e.on = true) → L i = true) →
    ∀ j i, ((befs l acc).getD j 0).testBit i = true → (∀ o, ops[j]? = some o → ∀ e ∈ o.after.toList, Region.binds .any e = true → L e.on = true) → L i = true
  | [], done, acc, ho, hl, h, j, i, hb, hr => by
    by_cases hj : j < acc.length
    · exact h j i hj hb hr
    · rw [befs, List.getD_eq_getElem?_getD, List.getElem?_eq_none (by omega)] at hb
      simp at hb
  | o :: os, done, acc, ho, hl, h, j, i, hb, hr => by
    refine befs_spec hc os (done ++ [o]) (acc ++ [befOf acc o]) (by rw [ho]; simp) (by simp [hl]) (fun j' i' hj' hb' hr' => ?_) j i hb hr
    by_cases hlt : j' < acc.length
    · rw [List.getD_eq_getElem?_getD, List.getElem?_append_left hlt, ← List.getD_eq_getElem?_getD] at hb'
      exact h j' i' hlt hb' hr'
    · have : j' = acc.length := by simp at hj'; omega
      subst this
      have hoj : ops[acc.length]? = some o := by rw [ho, hl, List.getElem?_append_right (Nat.le_refl _)]; simp
      rw [List.getD_eq_getElem?_getD, List.getElem?_append_right (Nat.le_refl _)] at hb'
      simp only [Nat.sub_self, List.getElem?_cons_zero, Option.getD_some] at hb'
      rcases befOf_bit _ _ hb' with h1 | ⟨e, h1, h2, h3⟩
      · simp at h1
      · have hLe := hr' o hoj e h1 h2
        rcases h3 with h3 | h3
        · rw [← h3]; exact hLe
        · by_cases hlt' : e.on < acc.length
          · exact h e.on i' hlt' h3 (fun o' ho' e' he' hb' => hc e.on o' ho' hLe e' he' hb')
          · rw [List.getD_eq_getElem?_getD, List.getElem?_eq_none (by omega)] at h3
            simp at h3

/-- the slots that an operation looks at -/
def looks (ops : Array Oper) (o : Oper) : List Nat := (o.op.operands.toList.filterMap fun
  | .tmp t => some t
  | _ => none) ++ (match o.guard with
  | some (g, _) => ((ops[g]?).bind (·.dst)).toList
  | none => [])
def disj (a b : List Nat) : Bool := a.all fun x => !b.contains x
def pairOk (ops : Array Oper) (log : Log) (i j : Nat) : Bool := match ops[i]?, ops[j]?, log[i]?, log[j]? with
  | some oi, some oj, some li, some lj => disj oi.dst.toList (looks ops oj) && disj oj.dst.toList (looks ops oi) && disj oi.dst.toList oj.dst.toList && disj li.2 (lj.1 ++ lj.2) && disj lj.2 li.1
  | _, _, _, _ => false
def raceOk (ops : Array Oper) (log : Log) : Bool :=
  (List.range ops.size).all fun j => (match ops[j]? with
    | some o => o.after.toList.all fun e => !Region.binds .any e || decide (e.on < j)
    | none => true) && (List.range j).all fun i => ((befs ops.toList []).getD j 0).testBit i || pairOk ops log i j

theorem disj_spec {a b : List Nat} (h : disj a b = true) : ∀ x ∈ a, ¬ x ∈ b := fun x hx hb => by
  have := List.all_eq_true.1 h x hx
  simp [hb] at this

section
variable {P : Program} {E : Env} {ops : Array Oper} {σ : St} {xs : List Ent} {log : Log}

theorem raceOk_spec (h : raceOk ops log = true) : (∀ j o, ops[j]? = some o → ∀ e ∈ o.after.toList, Region.binds .any e = true → e.on < j) ∧
    ∀ i j, i < j → j < ops.size → ((befs ops.toList []).getD j 0).testBit i = true ∨ pairOk ops log i j = true := by
  have h := List.all_eq_true.1 h
  refine ⟨fun j o ho e he hb => ?_, fun i j hij hj => ?_⟩
  · have hj : j < ops.size := (Array.getElem?_eq_some_iff.1 ho).1
    have := h j (List.mem_range.2 hj)
    rw [Bool.and_eq_true, ho] at this
    have := List.all_eq_true.1 this.1 e he
    simp [hb] at this
    exact this
  · have := h j (List.mem_range.2 hj)
    rw [Bool.and_eq_true] at this
    have := List.all_eq_true.1 this.2 i (List.mem_range.2 hij)
    simpa using this

/-- unordered operations do not meet -/
theorem pair_apart (h : raceOk ops log = true) {L : Nat → Bool} (hc : closed ops.toList L) {i k : Nat} (hk : k < ops.size) (hi : i < ops.size) (hik : i ≠ k) (hLi : L i = false) (hri : ∀ o, ops[i]? = some o → ∀ e ∈ o.after.toList, Region.binds .any e = true → L e.on = true)
    (hun : (k < i ∧ L k = false) ∨ (i < k ∧ L k = true)) : pairOk ops log (min i k) (max i k) = true := by
  obtain ⟨_, h2⟩ := raceOk_spec h
  have spec := befs_spec hc ops.toList [] [] (by simp) rfl (fun j i hj => by cases hj)
  rcases hun with ⟨h3, h4⟩ | ⟨h3, h4⟩
  · rw [Nat.min_eq_right (by omega), Nat.max_eq_left (by omega)]
    rcases h2 k i h3 hi with h5 | h5
    · have := spec i k h5 (fun o ho => hri o (by simpa using ho))
      rw [h4] at this; cases this
    · exact h5
  · rw [Nat.min_eq_left (by omega), Nat.max_eq_right (by omega)]
    rcases h2 i k h3 hk with h5 | h5
    · have := spec k i h5 (fun o ho e he hb => hc k o ho h4 e he hb)
      rw [hLi] at this; cases this
    · exact h5

structure Apart (ops : Array Oper) (log : Log) (i k : Nat) : Prop where
  look : ∀ o o', ops[i]? = some o → ops[k]? = some o' → ∀ d, o'.dst = some d → ¬ d ∈ looks ops o
  dst : ∀ o o', ops[i]? = some o → ops[k]? = some o' → ∀ d, o.dst = some d → ¬ o'.dst = some d
  read : ∀ x y, log[i]? = some x → log[k]? = some y → ∀ id ∈ y.2, ¬ id ∈ x.1
  touch : ∀ x y, log[i]? = some x → log[k]? = some y → ∀ id ∈ x.2, ¬ id ∈ y.2
theorem apart_of {i k : Nat} (h : pairOk ops log (min i k) (max i k) = true) : Apart ops log i k := by
  unfold pairOk at h
  split at h
  · rename_i oi oj li lj h1 h2 h3 h4
    simp only [Bool.and_eq_true] at h
    obtain ⟨⟨⟨⟨g1, g2⟩, g3⟩, g4⟩, g5⟩ := h
    have g1 := disj_spec g1
    have g2 := disj_spec g2
    have g3 := disj_spec g3
    have g4 := disj_spec g4
    have g5 := disj_spec g5
    rcases Nat.le_total i k with hik | hik
    · rw [Nat.min_eq_left hik] at h1 h3
      rw [Nat.max_eq_right hik] at h2 h4
      refine ⟨fun o o' a b d hd => ?_, fun o o' a b d hd hd' => ?_, fun x y a b id hid hx => ?_, fun x y a b id hid hy => ?_⟩
      · rw [h1] at a; rw [h2] at b; cases a; cases b; exact g2 d (by simp [hd])
      · rw [h1] at a; rw [h2] at b; cases a; cases b; exact g3 d (by simp [hd]) (by simp [hd'])
      · rw [h3] at a; rw [h4] at b; cases a; cases b; exact g5 id hid hx
      · rw [h3] at a; rw [h4] at b; cases a; cases b; exact g4 id hid (by simp [hy])
    · rw [Nat.min_eq_right hik] at h1 h3
      rw [Nat.max_eq_left hik] at h2 h4
      refine ⟨fun o o' a b d hd => ?_, fun o o' a b d hd hd' => ?_, fun x y a b id hid hx => ?_, fun x y a b id hid hy => ?_⟩
      · rw [h2] at a; rw [h1] at b; cases a; cases b; exact g1 d (by simp [hd])
      · rw [h2] at a; rw [h1] at b; cases a; cases b; exact g3 d (by simp [hd']) (by simp [hd])
      · rw [h4] at a; rw [h3] at b; cases a; cases b; exact g4 id hid (by simp [hx])
      · rw [h4] at a; rw [h3] at b; cases a; cases b; exact g4 id hy (by simp [hid])
  · cases h
end

/-! ### any order -/
def cnt (L : Nat → Bool) : Nat → Nat
  | 0 => 0
  | k + 1 => cnt L k + if L k then 0 else 1
theorem cnt_zero {L : Nat → Bool} : ∀ {n : Nat}, cnt L n = 0 → ∀ k, k < n → L k = true
  | n + 1, h, k, hk => by
    simp only [cnt] at h
    by_cases hkn : k = n
    · subst hkn
      cases hL : L k with
      | true => rfl
      | false => rw [hL] at h; simp at h
    · exact cnt_zero (n := n) (by omega) k (by omega)
theorem cnt_set {L L' : Nat → Bool} {i : Nat} (hi : L i = false) (hi' : L' i = true) (h : ∀ k, k ≠ i → L' k = L k) : ∀ {n : Nat}, (i < n → cnt L' n + 1 = cnt L n) ∧ (n ≤ i → cnt L' n = cnt L n)
  | 0 => ⟨fun h => by omega, fun _ => rfl⟩
  | n + 1 => by
    obtain ⟨h1, h2⟩ := cnt_set hi hi' h (n := n)
    refine ⟨fun hlt => ?_, fun hle => ?_⟩
    · simp only [cnt]
      by_cases hin : i = n
      · subst hin
        rw [h2 (Nat.le_refl _), hi, hi']
        simp
      · rw [h n (Ne.symm hin)]
        have := h1 (by omega)
        omega
    · simp only [cnt]
      rw [h2 (by omega), h n (by omega)]

section
variable {P : Program} {E : Env} {ops : Array Oper} {σ : St} {xs : List Ent} {log : Log} {Q : Exit → Act → World → Prop}

abbrev isL (listed : Array Bool) : Nat → Bool := fun k => listed.getD k false

theorem slotU_mem {o : Oper} {x : Ent} {u : Nat} : u ∈ (slotU o x).map (·.1) ↔ o.dst = some u := by
  unfold slotU
  cases o.dst with
  | none => simp
  | some d => simp [eq_comm]

theorem zip_get {β : Type} {f : Oper → Ent → β} {l : List Oper} {xs : List Ent} {k : Nat} {y : β} (h : (List.zipWith f l xs)[k]? = some y) : ∃ o x, l[k]? = some o ∧ xs[k]? = some x ∧ y = f o x := by
  rw [List.getElem?_zipWith] at h
  split at h
  · rename_i o x h1 h2
    cases h
    exact ⟨o, x, h1, h2, rfl⟩
  · cases h

/-- what the listed operations have left, seen through one slot or one object -/
theorem seen_slot {L1 L2 : Nat → Bool} {u : Nat} {l : List Oper} {xs : List Ent} (h : ∀ k o, l[k]? = some o → o.dst = some u → L1 k = L2 k) : get (runL L1 0 l xs σ).t u = get (runL L2 0 l xs σ).t u := by
  rw [get_lk, get_lk, (runL_t L1 l xs 0 σ).1, (runL_t L2 l xs 0 σ).1]
  congr 1
  refine ovr_agree _ 0 _ _ (fun k y hy hu => ?_) rfl
  obtain ⟨o, x, h1, h2, rfl⟩ := zip_get hy
  rw [Nat.zero_add]
  exact h k o h1 (slotU_mem.1 hu)
theorem seen_obj {L1 L2 : Nat → Bool} {id : Nat} {l : List Oper} {xs : List Ent} (h : ∀ k x, xs[k]? = some x → id ∈ x.U.map (·.1) → L1 k = L2 k) : hget (runL L1 0 l xs σ).h id = hget (runL L2 0 l xs σ).h id := by
  rw [hget_lk, hget_lk, (runL_t L1 l xs 0 σ).2.1, (runL_t L2 l xs 0 σ).2.1]
  refine ovr_agree _ 0 _ _ (fun k y hy hu => ?_) rfl
  obtain ⟨o, x, h1, h2, rfl⟩ := zip_get hy
  rw [Nat.zero_add]
  exact h k x h2 hu

theorem runL_all (L : Nat → Bool) : ∀ (l : List Oper) (xs : List Ent) (k : Nat) (σ : St), xs.length = l.length → (∀ j, j < l.length → L (k + j) = true) → runL L k l xs σ = runL (fun _ => true) k l xs σ
  | [], _, _, _, _, _ => rfl
  | _ :: _, [], _, _, h, _ => by cases h
  | o :: os, x :: xs, k, σ, h, hL => by
    simp only [runL]
    rw [show L k = true by simpa using hL 0 (by simp)]
    exact runL_all L os xs (k + 1) _ (by simpa using h) (fun j hj => by have := hL (j + 1) (by simp; omega); rw [show k + 1 + j = k + (j + 1) by omega]; exact this)

/-- the steps ahead of one, as a choice of all -/
theorem runL_take : ∀ (l : List Oper) (xs : List Ent) (i k : Nat) (σ : St), runL (fun _ => true) k (l.take i) (xs.take i) σ = runL (fun j => decide (j < k + i)) k l xs σ
  | [], xs, i, k, σ => by cases i <;> cases xs <;> rfl
  | o :: os, [], i, k, σ => by cases i <;> rfl
  | o :: os, x :: xs, 0, k, σ => by
    have none : ∀ (l : List Oper) (xs : List Ent) (k0 : Nat) (σ : St), k ≤ k0 → runL (fun j => decide (j < k + 0)) k0 l xs σ = σ := fun l => by
      induction l with
      | nil => intros; rfl
      | cons o l ih =>
        intro xs k0 σ hk
        cases xs with
        | nil => rfl
        | cons x xs => simp only [runL]; rw [if_neg (by simp; omega)]; exact ih xs (k0 + 1) σ (by omega)
    rw [none _ _ k σ (Nat.le_refl _)]
    rfl
  | o :: os, x :: xs, i + 1, k, σ => by
    simp only [List.take_succ_cons, runL, if_true]
    rw [if_pos (by simp), runL_take os xs i (k + 1)]
    congr 1
    funext j
    congr 1
    simp only [eq_iff_iff]
    omega

theorem any_sound {Φ : Fr} {ro : Option Nat} {n : Nat} (hx : xs.length = ops.size) (hrace : raceOk ops log = true) (hlog : log = xs.map fun x => (x.rd, x.U.map (·.1)))
    (hent : ∀ k o x, ops[k]? = some o → xs[k]? = some x → dstOk σ.m o.dst ∧ EntOk P ops o (σ.n + 4 * k) (runL (fun _ => true) 0 (ops.toList.take k) (xs.take k) σ) x)
    (hQ : ∀ loc kn a w, Conc E (bump (runL (fun _ => true) 0 ops.toList xs σ) ops.size) loc kn a w → In E Φ (hget (runL (fun _ => true) 0 ops.toList xs σ).h) loc kn w → DefsOk Φ.w.heap.size w a.defers → Q .normal a w) :
    ∀ (fuel : Nat) (listed : Array Bool) (loc : Locs) (kn : Nat → Prop) (a : Act) (w : World), listed.size = ops.size → cnt (isL listed) ops.size ≤ fuel → closed ops.toList (isL listed) →
      MC E (hget (runL (isL listed) 0 ops.toList xs σ).h) loc kn w → SlotsOk (cxOf E (hget (runL (isL listed) 0 ops.toList xs σ).h) loc w) (hget (runL (isL listed) 0 ops.toList xs σ).h) loc kn (runL (isL listed) 0 ops.toList xs σ).t a →
      a.tmps.size = σ.m → DefsOk Φ.w.heap.size w a.defers → (∀ id, kn id → id < σ.n ∨ ∃ k, k < ops.size ∧ isL listed k = true ∧ σ.n + 4 * k ≤ id ∧ id < σ.n + 4 * k + 4) → In E Φ (hget (runL (isL listed) 0 ops.toList xs σ).h) loc kn w → wpAnyIn (FW ro) n P .any ops Q fuel listed a w := by
  obtain ⟨hord, _⟩ := raceOk_spec hrace
  -- the end
  have fin : ∀ (listed : Array Bool) (loc : Locs) (kn : Nat → Prop) (a : Act) (w : World), listed.size = ops.size → closed ops.toList (isL listed) → Region.ready .any ops listed = [] →
      MC E (hget (runL (isL listed) 0 ops.toList xs σ).h) loc kn w → SlotsOk (cxOf E (hget (runL (isL listed) 0 ops.toList xs σ).h) loc w) (hget (runL (isL listed) 0 ops.toList xs σ).h) loc kn (runL (isL listed) 0 ops.toList xs σ).t a →
      a.tmps.size = σ.m → DefsOk Φ.w.heap.size w a.defers → (∀ id, kn id → id < σ.n ∨ ∃ k, k < ops.size ∧ isL listed k = true ∧ σ.n + 4 * k ≤ id ∧ id < σ.n + 4 * k + 4) → In E Φ (hget (runL (isL listed) 0 ops.toList xs σ).h) loc kn w → Q .normal a w := by
    intro listed loc kn a w hsz hcl hready hm hs hz hd hk hin
    have hall : ∀ j, j < ops.size → isL listed j = true := by
      intro j
      induction j using Nat.strongRecOn with
      | _ j ih =>
        intro hj
        cases hlj : isL listed j with
        | true => rfl
        | false =>
          have hmem : j ∈ Region.ready .any ops listed := by
            rw [mem_ready]
            refine ⟨?_, ops[j], by simp [hj], fun e he hb => ?_⟩
            · have hjl : j < listed.size := by omega
              simpa [isL, Array.getD, hjl] using hlj
            · have h1 := hord j ops[j] (by simp [hj]) e (by simpa using he) hb
              have h2 := ih e.on h1 (by omega)
              exact h2
          rw [hready] at hmem
          cases hmem
    have e := runL_all (isL listed) ops.toList xs 0 σ (by simpa using hx) (fun j hj => by rw [Nat.zero_add]; exact hall j (by simpa using hj))
    rw [e] at hm hs hin
    obtain ⟨_, _, em, en⟩ := runL_t (fun _ => true) ops.toList xs 0 σ
    refine hQ loc kn a w ⟨hm, hs, hz.trans em.symm, fun id hid => ?_⟩ hin hd
    show id < (runL (fun _ => true) 0 ops.toList xs σ).n + 4 * ops.size
    rw [en]
    rcases hk id hid with h1 | ⟨k, h1, _, _, h2⟩ <;> omega
  intro fuel
  induction fuel with
  | zero =>
    intro listed loc kn a w hsz hc hcl hm hs hz hd hk hin
    have hr : Region.ready .any ops listed = [] := by
      apply List.eq_nil_iff_forall_not_mem.2
      intro j hj
      obtain ⟨h1, o, h2, _⟩ := mem_ready.1 hj
      have hjs : j < ops.size := (Array.getElem?_eq_some_iff.1 h2).1
      have := cnt_zero (Nat.le_zero.1 hc) j hjs
      have hjl : j < listed.size := by omega
      simp only [isL, Array.getD, hjl, dif_pos] at this
      simp only [Array.getD, hjl, dif_pos] at h1
      rw [this] at h1
      cases h1
    exact ⟨hr, fin listed loc kn a w hsz hcl hr hm hs hz hd hk hin⟩
  | succ fuel ih =>
    intro listed loc kn a w hsz hc hcl hm hs hz hd hk hin
    refine ⟨fun hr => fin listed loc kn a w hsz hcl hr hm hs hz hd hk hin, fun i hi => ?_⟩
    obtain ⟨h1, o, ho, hpre⟩ := mem_ready.1 hi
    have his : i < ops.size := (Array.getElem?_eq_some_iff.1 ho).1
    have hil : i < listed.size := by omega
    have hLi : isL listed i = false := by simpa [isL, Array.getD, hil] using h1
    have hri : ∀ o', ops[i]? = some o' → ∀ e ∈ o'.after.toList, Region.binds .any e = true → isL listed e.on = true := fun o' ho' e he hb => by
      rw [ho] at ho'; cases ho'
      exact hpre e (by simpa using he) hb
    obtain ⟨x, hxi⟩ : ∃ x, xs[i]? = some x := ⟨_, List.getElem?_eq_getElem (by omega)⟩
    obtain ⟨hdst, hg, hsk, hvc⟩ := hent i o x ho hxi
    have hlogi : log[i]? = some (x.rd, x.U.map (·.1)) := by rw [hlog, List.getElem?_map, hxi]; rfl
    have hlog_k : ∀ (k : Nat) (y : Ent), xs[k]? = some y → log[k]? = some (y.rd, y.U.map (·.1)) := fun k y hy => by rw [hlog, List.getElem?_map, hy]; rfl
    -- apart from what is unordered
    have hap : ∀ k, k < ops.size → i ≠ k → ((k < i ∧ isL listed k = false) ∨ (i < k ∧ isL listed k = true)) → Apart ops log i k := fun k hk hne hun => apart_of (pair_apart hrace hcl hk his hne hLi hri hun)
    rw [runL_take] at hg hvc
    -- the slots that it looks at
    have hslot : ∀ u, u ∈ looks ops o → get (runL (isL listed) 0 ops.toList xs σ).t u = get (runL (fun j => decide (j < 0 + i)) 0 ops.toList xs σ).t u := fun u hu => seen_slot fun k o' hk hd' => by
      have hko : ops[k]? = some o' := by simpa using hk
      have hks : k < ops.size := (Array.getElem?_eq_some_iff.1 hko).1
      by_cases hlt : k < i
      · cases hLk : isL listed k with
        | true => simp [hlt]
        | false => exact absurd hu ((hap k hks (by omega) (.inl ⟨hlt, hLk⟩)).look o o' ho hko u hd')
      · by_cases hki : k = i
        · subst hki; rw [hLi]; simp
        · cases hLk : isL listed k with
          | false => simp; omega
          | true => exact absurd hu ((hap k hks (by omega) (.inr ⟨by omega, hLk⟩)).look o o' ho hko u hd')
    have hobj : ∀ id, id ∈ x.rd → hget (runL (isL listed) 0 ops.toList xs σ).h id = hget (runL (fun j => decide (j < 0 + i)) 0 ops.toList xs σ).h id := fun id hid => seen_obj fun k y hk hy => by
      have hks : k < ops.size := by have := (List.getElem?_eq_some_iff.1 hk).1; omega
      by_cases hlt : k < i
      · cases hLk : isL listed k with
        | true => simp [hlt]
        | false => exact absurd hid ((hap k hks (by omega) (.inl ⟨hlt, hLk⟩)).read _ _ hlogi (hlog_k k y hk) id hy)
      · by_cases hki : k = i
        · subst hki; rw [hLi]; simp
        · cases hLk : isL listed k with
          | false => simp; omega
          | true => exact absurd hid ((hap k hks (by omega) (.inr ⟨by omega, hLk⟩)).read _ _ hlogi (hlog_k k y hk) id hy)
    -- behind it
    obtain ⟨et, eh, em, en⟩ := runL_t (isL listed) ops.toList xs 0 σ
    have hsz' : (listed.setIfInBounds i true).size = ops.size := by simp [hsz]
    have hL'i : isL (listed.setIfInBounds i true) i = true := by simp [isL, Array.getD, hil]
    have hL'k : ∀ k, k ≠ i → isL (listed.setIfInBounds i true) k = isL listed k := fun k hk => by
      simp only [isL, Array.getD_eq_getD_getElem?]
      rw [Array.getElem?_setIfInBounds_ne (Ne.symm hk)]
    have hcnt : cnt (isL (listed.setIfInBounds i true)) ops.size ≤ fuel := by
      have := (cnt_set hLi hL'i hL'k (n := ops.size)).1 his
      omega
    have hcl' : closed ops.toList (isL (listed.setIfInBounds i true)) := fun j o' hj hLj e he hb => by
      have hke : ∀ k, isL listed k = true → isL (listed.setIfInBounds i true) k = true := fun k hk => by
        by_cases hki : k = i
        · subst hki; exact hL'i
        · rw [hL'k k hki]; exact hk
      by_cases hji : j = i
      · subst hji
        exact hke _ (hri o' (by simpa using hj) e he hb)
      · rw [hL'k j hji] at hLj
        exact hke _ (hcl j o' hj hLj e he hb)
    -- the state with it, through slots and objects
    have hgetS : ∀ u, get (runL (isL (listed.setIfInBounds i true)) 0 ops.toList xs σ).t u = get (putS (runL (isL listed) 0 ops.toList xs σ).t o.dst x.r) u := fun u => by
      by_cases hdu : o.dst = some u
      · rw [hdu]
        simp only [putS, get, if_true]
        rw [get_lk, (runL_t _ ops.toList xs 0 σ).1]
        have := ovr_last (L := isL (listed.setIfInBounds i true)) (id := u) (List.zipWith slotU ops.toList xs) 0 i σ.t (slotU o x) (by rw [List.getElem?_zipWith]; simp [ho, hxi]) (slotU_mem.2 hdu) (by rw [Nat.zero_add]; exact hL'i) (fun k v hik hv hu => by
          obtain ⟨o', y, g1, g2, rfl⟩ := zip_get hv
          have hko : ops[k]? = some o' := by simpa using g1
          have hks : k < ops.size := (Array.getElem?_eq_some_iff.1 hko).1
          rw [Nat.zero_add, hL'k k (by omega)]
          cases hLk : isL listed k with
          | false => rfl
          | true => exact absurd (slotU_mem.1 hu) ((hap k hks (by omega) (.inr ⟨hik, hLk⟩)).dst o o' ho hko u hdu))
        rw [this]
        simp [slotU, hdu, lk]
      · have e1 : get (putS (runL (isL listed) 0 ops.toList xs σ).t o.dst x.r) u = get (runL (isL listed) 0 ops.toList xs σ).t u := by
          cases hod : o.dst with
          | none => rfl
          | some d =>
            have : ¬ d = u := fun e => hdu (by rw [hod, e])
            simp only [putS, get, if_neg this]
        rw [e1]
        refine seen_slot fun k o' hk hd' => ?_
        by_cases hki : k = i
        · subst hki
          have : o' = o := by have hk' : ops[k]? = some o' := by simpa using hk
                              rw [ho] at hk'; exact (Option.some.inj hk').symm
          subst this
          exact absurd hd' hdu
        · exact hL'k k hki
    have hgetH : hget (runL (isL (listed.setIfInBounds i true)) 0 ops.toList xs σ).h = upd x.U (hget (runL (isL listed) 0 ops.toList xs σ).h) := funext fun id => by
      rw [← hget_append]
      rw [hget_lk (x.U ++ _), lk_append]
      by_cases hu : id ∈ x.U.map (·.1)
      · rw [if_pos hu, hget_lk, (runL_t _ ops.toList xs 0 σ).2.1]
        exact ovr_last (L := isL (listed.setIfInBounds i true)) (List.zipWith (fun _ x => x.U) ops.toList xs) 0 i σ.h x.U (by rw [List.getElem?_zipWith]; simp [ho, hxi]) hu (by rw [Nat.zero_add]; exact hL'i) (fun k v hik hv hu' => by
          obtain ⟨o', y, g1, g2, rfl⟩ := zip_get hv
          have hks : k < ops.size := by have := (List.getElem?_eq_some_iff.1 g2).1; omega
          rw [Nat.zero_add, hL'k k (by omega)]
          cases hLk : isL listed k with
          | false => rfl
          | true => exact absurd hu' ((hap k hks (by omega) (.inr ⟨hik, hLk⟩)).touch _ _ hlogi (hlog_k k y g2) id hu))
      · rw [if_neg hu, ← hget_lk]
        refine seen_obj fun k y hk hy => ?_
        by_cases hki : k = i
        · subst hki
          rw [hxi] at hk
          cases hk
          exact absurd hy hu
        · exact hL'k k hki
    have hput : ∀ v, (a.put o.dst v).tmps.size = σ.m ∧ (a.put o.dst v).defers = a.defers := fun v => by
      cases o.dst <;> simp [Act.put, hz]
    -- what the walk goes on with
    have go : ∀ (v : Value) (loc' : Locs) (kn' : Nat → Prop) (w' : World), Tr E (hget (runL (isL listed) 0 ops.toList xs σ).h) loc kn w (upd x.U (hget (runL (isL listed) 0 ops.toList xs σ).h)) loc' kn' w' →
        SlotsOk (cxOf E (upd x.U (hget (runL (isL listed) 0 ops.toList xs σ).h)) loc' w') (upd x.U (hget (runL (isL listed) 0 ops.toList xs σ).h)) loc' kn' (putS (runL (isL listed) 0 ops.toList xs σ).t o.dst x.r) (a.put o.dst v) →
        (∀ id, kn' id → kn id ∨ (σ.n + 4 * i ≤ id ∧ id < σ.n + 4 * i + 4)) → wpAnyIn (FW ro) n P .any ops Q fuel (listed.setIfInBounds i true) (a.put o.dst v) w' := fun v loc' kn' w' g1 g2 g3 => by
      refine ih (listed.setIfInBounds i true) loc' kn' (a.put o.dst v) w' hsz' hcnt hcl' (by rw [hgetH]; exact g1.mc) (fun u => by rw [hgetH, hgetS u]; exact g2 u) (hput v).1 (by rw [(hput v).2]; exact hd.tr hm g1) (fun id hid => ?_) (by rw [hgetH]; exact hin.step hm g1)
      rcases g3 id hid with h2 | h2
      · rcases hk id h2 with h3 | ⟨k, k1, k2, k3⟩
        · exact .inl h3
        · refine .inr ⟨k, k1, ?_, k3⟩
          by_cases hki : k = i
          · subst hki; exact hL'i
          · rw [hL'k k hki]; exact k2
      · exact .inr ⟨i, his, hL'i, h2⟩
    -- whether it is wanted
    have hwant : Region.wanted o (yielded ops a.tmps) = !x.skip := by
      unfold GuardIs at hg
      cases hog : o.guard with
      | none => rw [hog] at hg; have hg : (!x.skip) = true := hg; rw [hg]; simp [Region.wanted, hog]
      | some g =>
        obtain ⟨j, want⟩ := g
        rw [hog] at hg
        obtain ⟨d, hd1, hd2⟩ := hg
        have hdl : d ∈ looks ops o := by
          unfold looks
          rw [hog]
          exact List.mem_append_right _ (by simp [hd1])
        have hsd := hs d
        rw [hslot d hdl] at hsd
        rcases hd2 with ⟨c, hc1, hc2⟩ | ⟨vs, hc1, hc2⟩
        · rw [hc1] at hsd
          have hv := hsd.val
          rw [hc2]
          simp only [Region.wanted, hog, yielded, hd1, Option.bind_some]
          rw [Array.getD_eq_getD_getElem?] at hv
          cases hxx : a.tmps[d]? with
          | none => rw [hxx] at hv; simp [undef] at hv
          | some y => rw [hxx] at hv; have hv : y = .bool c := hv; subst hv; cases c <;> cases want <;> rfl
        · rw [hc1] at hsd
          have hv := hsd.val
          rw [hc2]
          simp only [Region.wanted, hog, yielded, hd1, Option.bind_some]
          rw [Array.getD_eq_getD_getElem?] at hv
          cases hxx : a.tmps[d]? with
          | none => cases want <;> rfl
          | some y => rw [hxx] at hv; have hv : y = .tuple vs := hv; subst hv; cases want <;> rfl
    unfold wpOpIn
    simp only [ho]
    cases hskip : x.skip with
    | true =>
      rw [if_neg (by rw [hwant, hskip]; simp)]
      obtain ⟨e1, e2, e3⟩ := hsk hskip
      refine ⟨fun _ _ => trivial, ?_⟩
      refine go undef loc kn w (by rw [e2]; exact Tr.refl hm) ?_ (fun id h => .inl h)
      rw [e2, e1]
      exact slots_put hs (.d (.v undef)) (by rw [hz]; exact hdst)
    | false =>
      rw [if_pos (by rw [hwant, hskip]; rfl)]
      -- the condition holds at this state, too
      obtain ⟨r, U, Rd, ⟨_, e1, e2, e3⟩, hmove⟩ := vcOp_loc (hvc hskip)
      have hv := hmove (runL (isL listed) 0 ops.toList xs σ) (fun y hy => ?_) (fun id hid => hobj id (by rw [← e3]; exact hid))
      · refine op_sound hv hm (fun j hj hh => ?_) hs (fun r' U' Rd' v loc' kn' w' ⟨_, q1, q2, q3⟩ ht hr hk' => ?_)
        · rcases hk _ hh with h3 | ⟨k, k1, k2, k3, k4⟩
          · omega
          · have : k = i := by omega
            subst this
            rw [hLi] at k2
            cases k2
        · rw [q2, e2] at ht hr
          rw [q1, e1] at hr
          exact go v loc' kn' w' ht (slots_put (slots_tr ht hs) hr (by rw [hz]; exact hdst)) hk'
      · cases y with
        | tmp u =>
          exact hslot u (by
            unfold looks
            exact List.mem_append_left _ (List.mem_filterMap.2 ⟨.tmp u, hy, rfl⟩))
        | _ => rfl
end
end Go.Pm
