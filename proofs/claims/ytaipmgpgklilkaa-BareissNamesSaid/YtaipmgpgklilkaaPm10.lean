/-
  The pure machine, part 11: every operation; regions in the order of the text.
-/
import Derived.Test.YtaipmgpgklilkaaPm9
import Derived.RangeFuncRecord
set_option linter.unusedSimpArgs false
set_option linter.unusedVariables false
namespace Go
/-- no cells -/
def Obj.rawO : Obj → Bool
  | .cells .. => false
  | _ => true
end Go
namespace Go.Pm
open Go.RowKit

section
variable {P : Program} {E : Env} {loc : Locs} {kn : Nat → Prop} {w : World} {a : Act} {σ : St} {nid : Nat} {K : Kt} {o : Oper}

/-- what comes behind an operation -/
def After (E : Env) (σ : St) (nid : Nat) (loc : Locs) (kn : Nat → Prop) (w : World) (K : Kt) (next : Value → World → Prop) : Prop :=
  ∀ r U Rd v loc' kn' w', K σ r U Rd → Tr E (hget σ.h) loc kn w (upd U (hget σ.h)) loc' kn' w' → PRep (cxOf E (upd U (hget σ.h)) loc' w') (upd U (hget σ.h)) loc' kn' r v → (∀ id, kn' id → kn id ∨ (nid ≤ id ∧ id < nid + 4)) → next v w'

theorem Out.wpIn {ro : Option Nat} {n : Nat} (hd : ∀ c, o.op ≠ .defer c) (h : Out P E o σ nid loc kn w a K) {next : Act → World → Prop} {Q : Exit → Act → World → Prop} (hn : After E σ nid loc kn w K fun v w' => next (a.put o.dst v) w') : o.wpIn (FW ro) n P a w next Q := by
  obtain ⟨r, U, Rd, v, loc', kn', w', hK, hrun, ht, hr, hk⟩ := h
  refine ⟨fun _ _ => trivial, ?_⟩
  rw [Oper.semAt_eq _ _ _ hd]
  have := hn r U Rd v loc' kn' w' hK ht hr hk
  rcases hrun with h1 | ⟨h1, rfl⟩
  · rw [h1]; exact this
  · rw [h1]; exact this

theorem op_sound (h : vcOp P o nid σ K) (hm : MC E (hget σ.h) loc kn w) (hn : ∀ j, j < 4 → ¬ kn (nid + j)) (hs : SlotsOk (cxOf E (hget σ.h) loc w) (hget σ.h) loc kn σ.t a) {next : Act → World → Prop} {Q : Exit → Act → World → Prop}
    (hnext : After E σ nid loc kn w K fun v w' => next (a.put o.dst v) w') {ro : Option Nat} {n : Nat} : o.wpIn (FW ro) n P a w next Q := by
  have hn0 : ¬ kn nid := hn 0 (by decide)
  cases ho : o.op with
  | move x => exact (out_move (.inl ho) (by unfold vcOp at h; simp only [ho] at h; exact h) hm hs).wpIn (by simp [ho]) hnext
  | assign x => exact (out_move (.inr ho) (by unfold vcOp at h; simp only [ho] at h; exact h) hm hs).wpIn (by simp [ho]) hnext
  | pick c x y => exact (out_pick ho h hm hs).wpIn (by simp [ho]) hnext
  | extract x i => exact (out_extract ho h hm hs).wpIn (by simp [ho]) hnext
  | alloc t => exact (out_alloc ho h hm hn0).wpIn (by simp [ho]) hnext
  | box t x => exact (out_box ho h hm hn0 hs).wpIn (by simp [ho]) hnext
  | build t ps => exact (out_build ho h hm hs).wpIn (by simp [ho]) hnext
  | buildSlice t len ps => exact (out_buildSlice ho h hm hn0 hs).wpIn (by simp [ho]) hnext
  | load t x => exact (out_load ho h hm hs).wpIn (by simp [ho]) hnext
  | store t x y => exact (out_store ho h hm hs).wpIn (by simp [ho]) hnext
  | binOp op t x y t' => exact (out_bin ho h hm hs).wpIn (by simp [ho]) hnext
  | unOp op t x => exact (out_un ho h hm hs).wpIn (by simp [ho]) hnext
  | convert s t x => exact (out_conv ho h hm hs).wpIn (by simp [ho]) hnext
  | makeFunc fn first caps => exact (out_makeFunc ho h hm hs).wpIn (by simp [ho]) hnext
  | makeSlice t l c => exact (out_makeSlice ho h hm hn0 hs).wpIn (by simp [ho]) hnext
  | fieldAddr s x f => exact (out_fieldAddr ho h hm hs).wpIn (by simp [ho]) hnext
  | indexAddr t x ix => exact (out_indexAddr ho h hm hs).wpIn (by simp [ho]) hnext
  | nilCheck x => exact (out_nilCheck ho h hm hs).wpIn (by simp [ho]) hnext
  | index t x i => exact (out_index ho h hm hs).wpIn (by simp [ho]) hnext
  | slice t x lo hi mx => exact (out_slice ho h hm hs).wpIn (by simp [ho]) hnext
  | call c =>
    unfold vcOp at h
    simp only [ho] at h
    cases hc : c.callee with
    | value f =>
      unfold callV at h
      simp only [hc] at h
      split at h
      · rename_i g caps hf
        rcases h with h | ⟨hs', r, h', hcall, hhas, hK⟩
        · obtain ⟨as, has, r, hp, hlen, h⟩ := got_spec h
          exact call_run ho hc hf hp.enters hs (pcall_run (next := fun v w' => next (a.put o.dst v) w') has hp hlen hm hn (fun v loc' kn' w' ht hr hk => hnext _ _ _ v loc' kn' w' h ht hr hk))
        · refine call_run ho hc hf hcall.enters hs (fun vs hvs hrep => (hcall.calls E _ loc kn w vs hm (hasH_get hhas) hn hvs hrep).mono (fun e w' ⟨v, loc', kn', he, ht, hr, hk⟩ => ⟨v, he, hnext _ _ _ v loc' kn' w' hK ht hr hk⟩))
      · exact h.elim
    | invoke x y => unfold callV at h; simp only [hc] at h
    | builtin b =>
      cases b with
      | len =>
        have h0 := h
        unfold callV at h
        simp only [hc] at h
        split at h
        · rename_i x t ha ht
          exact (out_len ho hc ha ht h0 hm hs).wpIn (by simp [ho]) hnext
        · exact h.elim
      | append =>
        unfold callV at h
        simp only [hc] at h
        split at h
        · rename_i s x t t' ha ht
          obtain ⟨T, hT, htt, h2⟩ := got_spec h
          exact (out_append ho hc ha (by rw [ht, htt]) hT h2 hm hn0 hs).wpIn (by simp [ho]) hnext
        · exact h.elim
      | copy =>
        unfold callV at h
        simp only [hc] at h
        split at h
        · rename_i s x t t' ha ht
          obtain ⟨T, hT, h2⟩ := got_spec h
          exact (out_copy ho hc ha ht hT h2 hm hs).wpIn (by simp [ho]) hnext
        · exact h.elim
      | max =>
        unfold callV at h
        simp only [hc] at h
        obtain ⟨m, hmx, h⟩ := got_spec h
        refine Out.wpIn (by simp [ho]) (Out.quiet hm h (v := .int m.1 m.2) ?_ (.d (.v _))) hnext
        have key : ∀ (l : List Operand) (k : IntKind) (z : Int), maxL.maxG k z (l.map (ev σ.t)) = some m → ((l.map a.eval).foldlM Builtin.max2 (.int k z)).run P w = .ok (.int m.1 m.2) w := by
          intro l
          induction l with
          | nil => intro k z h; simp only [List.map_nil, maxL.maxG, Option.some.injEq] at h; subst h; rfl
          | cons x l ih =>
            intro k z h
            have hx := evRep hs x
            simp only [List.map_cons] at h ⊢
            generalize ev σ.t x = p at h hx
            unfold maxL.maxG at h
            split at h
            · rename_i e; cases e
            · rename_i k' q l' e1
              simp only [List.cons.injEq] at e1
              rw [e1.1] at hx
              rw [List.foldlM_cons, hx.val]
              simp only [Builtin.max2, Sem.run_bind, Sem.run_pure, Result.andThen_ok]
              exact ih _ _ (by rw [e1.2]; exact h)
            · cases h
        unfold execOp
        simp only [ho, resolve, hc, Sem.run_bind, Sem.run_pure, Result.andThen_ok, invoke, builtin, Builtin.max_, Array.toList_map]
        cases hargs : c.args.toList with
        | nil => rw [hargs] at hmx; cases hmx
        | cons x l =>
          rw [hargs] at hmx
          have hx := evRep hs x
          simp only [List.map_cons] at hmx ⊢
          unfold maxL at hmx
          split at hmx
          · rename_i e; cases e
          · rename_i k q l' e1
            simp only [List.cons.injEq] at e1
            rw [e1.1] at hx
            rw [hx.val]
            have := key l k q (by rw [e1.2]; exact hmx)
            simp only [this, Result.andThen_ok]
          · cases hmx
      | _ => unfold callV at h; simp only [hc] at h
  | _ => unfold vcOp at h; simp only [ho] at h

/-! ### regions -/
def putS (t : Slots) (dst : Option Tmp) (r : PV) : Slots := match dst with
  | some d => (d, r) :: t
  | none => t
def stepS (σ : St) (dst : Option Tmp) (r : PV) (U : Heap) : St := ⟨σ.m, putS σ.t dst r, U ++ σ.h, σ.n⟩
def guardV (ops : Array Oper) (g : Option (Nat × Bool)) (σ : St) (k1 k2 : St → Prop) : Prop := match g with
  | none => k1 σ
  | some (j, want) => match (ops[j]?).bind (·.dst) with
    | some d => match get σ.t d with
      | .d (.v (.bool c)) => IfB (c == want) σ k1 k2
      | .d (.v (.tuple _)) => k2 σ
      | _ => False
    | none => False
def dstOk (m : Nat) : Option Tmp → Prop
  | some d => d < m
  | none => True
abbrev Log := List (List Nat × List Nat)
/-- what a frame may do besides: call the yield of a loop; range over a function -/
structure Md where
  Y : List PV → St → (St → Bool → Prop) → Prop
  R : Operand → Array Tmp → Code → Code → (Exit → St → Prop) → St → Prop
def noM : Md := ⟨fun _ _ _ => False, fun _ _ _ _ _ _ => False⟩
def yieldOf (o : Oper) (σ : St) : Option (List PV) := match o.op with
  | .call c => match c.callee with
    | .value f => match ev σ.t f with
      | .yd => some (c.args.toList.map (ev σ.t))
      | _ => none
    | _ => none
  | _ => none
def opY (P : Program) (M : Md) (o : Oper) (nid : Nat) (σ : St) (K : Kt) : Prop := match yieldOf o σ with
  | some as => M.Y as ⟨σ.m, σ.t, σ.h, nid⟩ fun σ' b => K σ' (boolP b) [] []
  | none => vcOp P o nid σ K
def vcOps (P : Program) (M : Md) (ops : Array Oper) : List Oper → Nat → Log → (St → Log → Prop) → St → Prop
  | [], _, log, kk, σ => kk σ log
  | o :: os, i, log, kk, σ => Side (dstOk σ.m o.dst) σ fun σ => guardV ops o.guard σ
      (fun σ => opY P M o (σ.n + 4 * i) σ fun σ r U Rd => vcOps P M ops os (i + 1) (log ++ [(Rd, U.map (·.1))]) kk (stepS σ o.dst r U))
      (fun σ => vcOps P M ops os (i + 1) (log ++ [([], [])]) kk (stepS σ o.dst (.d (.v undef)) []))
def bump (σ : St) (k : Nat) : St := ⟨σ.m, σ.t, σ.h, σ.n + 4 * k⟩

/-- the marks of loops over functions among the deferred calls -/
def DefsOk (B : Nat) (w : World) (ds : List Deferred) : Prop := ∃ bs : List Nat, ds = bs.map (fun b => { target := .collected b, args := #[] }) ∧ bs.Nodup ∧ ∀ b ∈ bs, w.heap[b]? = some (.deferred (some [])) ∧ B ≤ b
theorem DefsOk.nil (B : Nat) (w : World) : DefsOk B w [] := ⟨[], rfl, List.nodup_nil, fun b h => by cases h⟩

/-- an own block holds cells -/
theorem MC.cells {E : Env} {hg : Nat → Option Ob} {loc : Locs} {kn : Nat → Prop} {w : World} (h : MC E hg loc kn w) {id b : Nat} (hi : hg id ≠ none) (hb : (loc id).has b) : ∃ c t, w.heap[b]? = some (.cells c t (0, 0)) := by
  obtain ⟨ob, hob⟩ := Option.ne_none_iff_exists'.1 hi
  have arr : ∀ (a : Arr) (l : Lc), ArrAt (cxOf E hg loc w) a l → l.has b → ∃ c t, w.heap[b]? = some (.cells c t (0, 0)) := fun a l ha hl => by
    cases l with
    | no => exact hl.elim
    | tb _ _ => exact ha.elim
    | pl b' cap => cases hl; obtain ⟨c, h1, _⟩ := ha; exact ⟨c, _, h1⟩
  have h2 := (h.objs id ob hob).2
  cases ob with
  | box cs => obtain ⟨b', cap, c, e, hl, h1, _⟩ := h.box hob; rw [hl] at hb; cases hb; exact ⟨c, e, h1⟩
  | arr a => exact arr a _ h2.2 hb
  | tab T =>
    obtain ⟨lo, rl, hl, hT⟩ := h.tab hob
    rw [hl] at hb
    rcases hb with hb | ⟨r, hb⟩
    · have hout := hT.out
      cases lo with
      | no => exact hb.elim
      | tb _ _ => exact hout.elim
      | pl b' cap => cases hb; obtain ⟨c, h1, _⟩ := hout; exact ⟨c, _, h1⟩
    · cases hr : T.row r with
      | none => rw [hT.gone r hr] at hb; exact hb.elim
      | some es => exact arr _ _ (hT.row r es hr) hb
  | dead => have h2 : loc id = .no := h2; rw [h2] at hb; exact hb.elim
theorem MC.raw {E : Env} {hg : Nat → Option Ob} {loc : Locs} {kn : Nat → Prop} {w : World} (h : MC E hg loc kn w) {b : Nat} {o : Obj} (ho : w.heap[b]? = some o) (hc : o.rawO = true) : ¬ ∃ id, hg id ≠ none ∧ (loc id).has b := fun ⟨id, h1, h2⟩ => by
  obtain ⟨c, t, h3⟩ := h.cells h1 h2
  rw [ho] at h3
  cases h3
  cases hc
theorem Tr.raw {E : Env} {hg hg' : Nat → Option Ob} {loc loc' : Locs} {kn kn' : Nat → Prop} {w w' : World} (hm : MC E hg loc kn w) (h : Tr E hg loc kn w hg' loc' kn' w') {b : Nat} {o : Obj} (ho : w.heap[b]? = some o) (hc : o.rawO = true) : w'.heap[b]? = some o :=
  (h.blk b (Array.getElem?_eq_some_iff.1 ho).1 (hm.raw ho hc)).trans ho
theorem DefsOk.tr {E : Env} {hg hg' : Nat → Option Ob} {loc loc' : Locs} {kn kn' : Nat → Prop} {w w' : World} {B : Nat} {ds : List Deferred} (hd : DefsOk B w ds) (hm : MC E hg loc kn w) (h : Tr E hg loc kn w hg' loc' kn' w') : DefsOk B w' ds := by
  obtain ⟨bs, h1, h2, h3⟩ := hd
  exact ⟨bs, h1, h2, fun b hb => ⟨h.raw hm (h3 b hb).1 rfl, (h3 b hb).2⟩⟩

/-- how memory has turned since a frame was entered; the blocks X may have turned too -/
structure TrX (E : Env) (X : Nat → Prop) (hg : Nat → Option Ob) (loc : Locs) (kn : Nat → Prop) (w : World) (hg' : Nat → Option Ob) (loc' : Locs) (kn' : Nat → Prop) (w' : World) : Prop where
  cx : Cx.le (cxOf E hg loc w) (cxOf E hg' loc' w')
  rf : RefLe hg hg' loc loc' kn
  kn : ∀ id, kn id → kn' id
  sz : w.heap.size ≤ w'.heap.size
  blk : ∀ b, b < w.heap.size → (¬ ∃ id, hg id ≠ none ∧ (loc id).has b) → ¬ X b → w'.heap[b]? = w.heap[b]?
  own : ∀ id b, hg' id ≠ none → (loc' id).has b → (∃ i, hg i ≠ none ∧ (loc i).has b) ∨ w.heap.size ≤ b
theorem Tr.x {E : Env} {hg hg' : Nat → Option Ob} {loc loc' : Locs} {kn kn' : Nat → Prop} {w w' : World} (h : Tr E hg loc kn w hg' loc' kn' w') (X : Nat → Prop) : TrX E X hg loc kn w hg' loc' kn' w' :=
  ⟨h.cx, h.rf, h.kn, h.sz, fun b h1 h2 _ => h.blk b h1 h2, h.own⟩
theorem TrX.trans {E : Env} {X : Nat → Prop} {h1 h2 h3 : Nat → Option Ob} {l1 l2 l3 : Locs} {k1 k2 k3 : Nat → Prop} {w1 w2 w3 : World} (h : TrX E X h1 l1 k1 w1 h2 l2 k2 w2) (k : TrX E X h2 l2 k2 w2 h3 l3 k3 w3) : TrX E X h1 l1 k1 w1 h3 l3 k3 w3 :=
  ⟨h.cx.trans k.cx, h.rf.trans k.rf h.kn, fun id hi => k.kn id (h.kn id hi), Nat.le_trans h.sz k.sz,
    fun b hb hno hx => (k.blk b (Nat.lt_of_lt_of_le hb h.sz) (fun ⟨id, g1, g2⟩ => (h.own id b g1 g2).elim hno (fun g => absurd hb (by omega))) hx).trans (h.blk b hb hno hx),
    fun id b g1 g2 => (k.own id b g1 g2).elim (fun ⟨i, g3, g4⟩ => h.own i b g3 g4) (fun g => .inr (Nat.le_trans h.sz g))⟩

/-- a frame as it was entered: X: blocks that may turn; L: objects that must stand -/
structure Fr where
  X : Nat → Prop
  hg : Nat → Option Ob
  loc : Locs
  kn : Nat → Prop
  w : World
  n : Nat
  L : Nat → Option Obj
structure In (E : Env) (Φ : Fr) (hg : Nat → Option Ob) (loc : Locs) (kn : Nat → Prop) (w : World) : Prop where
  tr : TrX E Φ.X Φ.hg Φ.loc Φ.kn Φ.w hg loc kn w
  keep : ∀ b o, Φ.L b = some o → o.rawO = true ∧ w.heap[b]? = some o
  knlt : ∀ id, Φ.kn id → id < Φ.n
  llt : ∀ b o, Φ.L b = some o → b < Φ.w.heap.size
  w0 : E.w0.heap.size ≤ Φ.w.heap.size
theorem In.step {E : Env} {Φ : Fr} {hg hg' : Nat → Option Ob} {loc loc' : Locs} {kn kn' : Nat → Prop} {w w' : World} (h : In E Φ hg loc kn w) (hm : MC E hg loc kn w) (ht : Tr E hg loc kn w hg' loc' kn' w') : In E Φ hg' loc' kn' w' :=
  ⟨h.tr.trans (ht.x _), fun b o hb => ⟨(h.keep b o hb).1, ht.raw hm (h.keep b o hb).2 (h.keep b o hb).1⟩, h.knlt, h.llt, h.w0⟩
theorem In.sub {E : Env} {Φ : Fr} {hg hg' : Nat → Option Ob} {loc : Locs} {kn : Nat → Prop} {w : World} (h : In E Φ hg loc kn w) (hh : ∀ id ob, hg' id = some ob → hg id = some ob) {n : Nat} (hn : Φ.n ≤ n) : In E Φ hg' loc (fun id => kn id ∧ id < n) w := by
  have hne : ∀ id, hg' id ≠ none → hg id ≠ none := fun id h1 => by
    obtain ⟨ob, hob⟩ := Option.ne_none_iff_exists'.1 h1
    rw [hh id ob hob]; simp
  refine ⟨⟨⟨h.tr.cx.cell, fun b o v h1 h2 ⟨id, ob, h3, h4⟩ => h.tr.cx.ow b o v h1 h2 ⟨id, ob, hh id ob h3, h4⟩, h.tr.cx.am, h.tr.cx.y⟩, ⟨fun id cs hk hi => h.tr.rf.box id cs hk (hh _ _ hi), fun id a hk hi => h.tr.rf.arr id a hk (hh _ _ hi), fun id T hk hi => h.tr.rf.tab id T hk (hh _ _ hi)⟩,
    fun id hk => ⟨h.tr.kn id hk, Nat.lt_of_lt_of_le (h.knlt id hk) hn⟩, h.tr.sz, h.tr.blk, fun id b h1 h2 => h.tr.own id b (hne id h1) h2⟩, h.keep, h.knlt, h.llt, h.w0⟩

/-- what an abstract state stands for -/
structure Conc (E : Env) (σ : St) (loc : Locs) (kn : Nat → Prop) (a : Act) (w : World) : Prop where
  mc : MC E (hget σ.h) loc kn w
  slots : SlotsOk (cxOf E (hget σ.h) loc w) (hget σ.h) loc kn σ.t a
  size : a.tmps.size = σ.m
  known : ∀ id, kn id → id < σ.n

/-- what is asked of a yield: the round is there, and it leaves the memory as the state behind it says -/
def YOk (P : Program) (E : Env) (Φ : Fr) (ro : Option Nat) (n : Nat) (Y : List PV → St → (St → Bool → Prop) → Prop) : Prop :=
  ∀ (l : Nat) (as : List PV) (σ : St) (K : St → Bool → Prop) (loc : Locs) (kn : Nat → Prop) (w : World) (vs : Array Value), E.y = some l → Y as σ K → MC E (hget σ.h) loc kn w → In E Φ (hget σ.h) loc kn w → Φ.n ≤ σ.n → (∀ id, kn id → id < σ.n) →
    vs.size = as.length → (∀ (j : Nat) (p : PV) (v : Value), as[j]? = some p → vs[j]? = some v → PRep (cxOf E (hget σ.h) loc w) (hget σ.h) loc kn p v) →
    ∃ fn tmps assign body, (Instr.yield l vs).run P w = .ok (.round l fn tmps assign body) w ∧ RoundIn (FW ro) (n - 1) P l fn tmps assign body w fun e w' => ∃ b h' n' loc' kn', e = .returned (.bool b) ∧ K ⟨σ.m, σ.t, h', n'⟩ b ∧
      MC E (hget h') loc' kn' w' ∧ In E Φ (hget h') loc' kn' w' ∧ Cx.le (cxOf E (hget σ.h) loc w) (cxOf E (hget h') loc' w') ∧ RefLe (hget σ.h) (hget h') loc loc' kn ∧ (∀ id, kn id → kn' id) ∧ (∀ B ds, DefsOk B w ds → DefsOk B w' ds) ∧ (∀ id, kn' id → id < n') ∧ σ.n ≤ n'
theorem YOk.no {P : Program} {E : Env} {Φ : Fr} {ro : Option Nat} {n : Nat} : YOk P E Φ ro n noM.Y := fun _ _ _ _ _ _ _ _ _ h => h.elim

theorem slots_put {C : Cx} {hg : Nat → Option Ob} {t : Slots} (h : SlotsOk C hg loc kn t a) {r : PV} {v : Value} (hr : PRep C hg loc kn r v) {dst : Option Tmp} (hd : dstOk a.tmps.size dst) :
    SlotsOk C hg loc kn (putS t dst r) (a.put dst v) := fun u => by
  cases dst with
  | none => exact h u
  | some d =>
    simp only [putS, get, Act.put]
    have hd : d < a.tmps.size := hd
    split
    · rename_i e
      subst e
      have e : (a.tmps.setIfInBounds d v).getD d undef = v := by simp [Array.getD_eq_getD_getElem?, hd]
      rw [e]; exact hr
    · rename_i e
      have e2 : (a.tmps.setIfInBounds d v).getD u undef = a.tmps.getD u undef := by simp [Array.getD_eq_getD_getElem?, e]
      rw [e2]; exact h u

theorem slots_tr {hg hg' : Nat → Option Ob} {loc' : Locs} {kn' : Nat → Prop} {w' : World} (ht : Tr E hg loc kn w hg' loc' kn' w') {t : Slots} (h : SlotsOk (cxOf E hg loc w) hg loc kn t a) : SlotsOk (cxOf E hg' loc' w') hg' loc' kn' t a :=
  fun u => (h u).le ht.cx ht.rf ht.kn

/-- whether an operation is wanted -/
theorem guard_run {ops : Array Oper} {g : Option (Nat × Bool)} {k1 k2 : St → Prop} (h : guardV ops g σ k1 k2) (hs : SlotsOk (cxOf E (hget σ.h) loc w) (hget σ.h) loc kn σ.t a) (hg : o.guard = g) :
    (Region.wanted o (yielded ops a.tmps) = true ∧ k1 σ) ∨ (Region.wanted o (yielded ops a.tmps) = false ∧ k2 σ) := by
  unfold guardV at h
  split at h
  · exact .inl ⟨by simp [Region.wanted, hg], h⟩
  · rename_i j want
    split at h
    · rename_i d hd
      have hsd := hs d
      have slot : ∀ u, u ≠ undef → a.tmps.getD d undef = u → a.tmps[d]? = some u := fun u hu e => by
        rw [Array.getD_eq_getD_getElem?] at e
        cases hx : a.tmps[d]? with
        | none => rw [hx] at e; exact absurd e.symm hu
        | some y => rw [hx] at e; exact congrArg some e
      split at h
      · rename_i c hc
        rw [hc] at hsd
        have hv := slot _ (by simp [undef]) hsd.val
        have hw : Region.wanted o (yielded ops a.tmps) = (c == want) := by
          simp only [Region.wanted, hg, yielded, hd, Option.bind_some, hv]
          cases c <;> cases want <;> rfl
        cases e : (c == want) with
        | true => exact .inl ⟨by rw [hw, e], h.1 e⟩
        | false => exact .inr ⟨by rw [hw, e], h.2 e⟩
      · rename_i vs hc
        rw [hc] at hsd
        have hv := hsd.val
        refine .inr ⟨?_, h⟩
        simp only [Region.wanted, hg, yielded, hd, Option.bind_some]
        rw [Array.getD_eq_getD_getElem?] at hv
        cases hx : a.tmps[d]? with
        | none => cases want <;> rfl
        | some y => rw [hx] at hv; have hv : y = .tuple vs := hv; subst hv; cases want <;> rfl
      · exact h.elim
    · exact h.elim

/-- a call of yield -/
theorem yield_sound {M : Md} {Φ : Fr} {ro : Option Nat} {n : Nat} (hY : YOk P E Φ ro n M.Y) {as : List PV} (hy : yieldOf o σ = some as) {K : St → Bool → Prop} (h : M.Y as ⟨σ.m, σ.t, σ.h, nid⟩ K) (hm : MC E (hget σ.h) loc kn w) (hi : In E Φ (hget σ.h) loc kn w) (hn : Φ.n ≤ nid)
    (hk : ∀ id, kn id → id < nid) (hs : SlotsOk (cxOf E (hget σ.h) loc w) (hget σ.h) loc kn σ.t a) {next : Act → World → Prop} {Q : Exit → Act → World → Prop}
    (hnext : ∀ b h' n' loc' kn' w', K ⟨σ.m, σ.t, h', n'⟩ b → MC E (hget h') loc' kn' w' → In E Φ (hget h') loc' kn' w' → Cx.le (cxOf E (hget σ.h) loc w) (cxOf E (hget h') loc' w') → RefLe (hget σ.h) (hget h') loc loc' kn → (∀ id, kn id → kn' id) → (∀ B ds, DefsOk B w ds → DefsOk B w' ds) → (∀ id, kn' id → id < n') → nid ≤ n' →
      next (a.put o.dst (.bool b)) w') : o.wpIn (FW ro) n P a w next Q := by
  unfold yieldOf at hy
  split at hy
  · rename_i c ho
    split at hy
    · rename_i f hc
      split at hy
      · rename_i hf
        simp only [Option.some.injEq] at hy
        subst hy
        have hfv := evRep hs f
        rw [hf] at hfv
        obtain ⟨l', hl', hfv⟩ : ∃ l', E.y = some l' ∧ a.eval f = yl l' := by
          generalize a.eval f = u at hfv
          cases hfv with
          | @yd l h => exact ⟨l, h, rfl⟩
        obtain ⟨fn, tmps, assign, body, h1, h2⟩ := hY l' _ _ K loc kn w (c.args.map a.eval) hl' h hm hi hn hk (by simp) (fun j p v hp hv => by
          rw [List.getElem?_map] at hp
          obtain ⟨x, hx, rfl⟩ := Option.map_eq_some_iff.1 hp
          rw [Array.getElem?_map] at hv
          rw [Array.getElem?_toList] at hx
          rw [hx] at hv
          cases hv
          exact evRep hs x)
        have hrun : (execOp a.eval o).run P w = .ok (.round l' fn tmps assign body) w := by
          unfold execOp
          simp only [ho, resolve, hc, hfv, yl, Deferred.ofValue, Sem.run_bind, Sem.run_pure, Result.andThen_ok, invoke]
          simpa using h1
        refine ⟨fun _ _ => trivial, ?_⟩
        rw [Oper.semAt_eq _ _ _ (by simp [ho]), hrun, Oper.uponIn_round]
        refine ⟨fun h0 => (by cases h0), h2.mono ?_⟩
        rintro e w' ⟨b, h', n', loc', kn', rfl, g1, g2, g3, g4, g5, g6, g7, g8, g9⟩
        exact hnext b h' n' loc' kn' w' g1 g2 g3 g4 g5 g6 g7 g8 g9
      · cases hy
    · cases hy
  · cases hy

/-- a region in the order of the text -/
theorem ops_sound {M : Md} {Φ : Fr} {ro : Option Nat} {n : Nat} (hY : YOk P E Φ ro n M.Y) {ops : Array Oper} {Q : Exit → Act → World → Prop} {kk : St → Log → Prop} : ∀ (l : List Oper) (i : Nat) (log : Log) (σ : St) (loc : Locs) (kn : Nat → Prop) (a : Act) (w : World), vcOps P M ops l i log kk σ →
    MC E (hget σ.h) loc kn w → SlotsOk (cxOf E (hget σ.h) loc w) (hget σ.h) loc kn σ.t a → a.tmps.size = σ.m → DefsOk Φ.w.heap.size w a.defers → (∀ id, kn id → id < σ.n + 4 * i) → In E Φ (hget σ.h) loc kn w → Φ.n ≤ σ.n →
    (∀ σ' log' loc' kn' a' w', kk σ' log' → MC E (hget σ'.h) loc' kn' w' → SlotsOk (cxOf E (hget σ'.h) loc' w') (hget σ'.h) loc' kn' σ'.t a' → a'.tmps.size = σ'.m → DefsOk Φ.w.heap.size w' a'.defers → (∀ id, kn' id → id < σ'.n + 4 * (i + l.length)) → In E Φ (hget σ'.h) loc' kn' w' → Φ.n ≤ σ'.n → Q .normal a' w') → wpListIn (FW ro) n P ops Q l a w
  | [], i, log, σ, loc, kn, a, w, h, hm, hs, hz, hd, hk, hi, hn, hQ => hQ σ log loc kn a w h hm hs hz hd (by simpa using hk) hi hn
  | o :: os, i, log, σ, loc, kn, a, w, h, hm, hs, hz, hd, hk, hi, hn, hQ => by
    obtain ⟨hdst, h⟩ := h
    have hput : ∀ v, (a.put o.dst v).tmps.size = σ.m ∧ (a.put o.dst v).defers = a.defers := fun v => by
      cases o.dst <;> simp [Act.put, hz]
    have hQ' : ∀ σ' log' loc2 kn2 a2 w2, kk σ' log' → MC E (hget σ'.h) loc2 kn2 w2 → SlotsOk (cxOf E (hget σ'.h) loc2 w2) (hget σ'.h) loc2 kn2 σ'.t a2 → a2.tmps.size = σ'.m → DefsOk Φ.w.heap.size w2 a2.defers → (∀ id, kn2 id → id < σ'.n + 4 * (i + 1 + os.length)) → In E Φ (hget σ'.h) loc2 kn2 w2 → Φ.n ≤ σ'.n → Q .normal a2 w2 :=
      fun σ' log' loc2 kn2 a2 w2 g1 g2 g3 g4 g5 g6 g7 g8 => hQ σ' log' loc2 kn2 a2 w2 g1 g2 g3 g4 g5 (fun id hid => by have := g6 id hid; simp only [List.length_cons]; omega) g7 g8
    rcases guard_run h hs rfl with ⟨hw, h⟩ | ⟨hw, h⟩
    · refine wpListIn_step fun K' hK => ?_
      rw [if_pos hw]
      unfold opY at h
      split at h
      · rename_i as hy
        refine yield_sound hY hy h hm hi (by omega) hk hs (fun b h' n' loc' kn' w' hkk g1 g2 g3 g4 g5 g6 g7 g8 => hK _ _ ?_)
        refine ops_sound hY os (i + 1) _ (stepS ⟨σ.m, σ.t, h', n'⟩ o.dst (boolP b) []) loc' kn' (a.put o.dst (.bool b)) w' hkk g1 (slots_put (fun u => (hs u).le g3 g4 g5) (.d (.v _)) (by rw [hz]; exact hdst)) (hput _).1 (by rw [(hput _).2]; exact g6 _ _ hd) (fun id hid => ?_) g2 ?_ hQ'
        · have := g7 id hid; show id < n' + 4 * (i + 1); omega
        · show Φ.n ≤ n'; omega
      · refine op_sound h hm (fun j hj hh => by have := hk _ hh; omega) hs (fun r U Rd v loc' kn' w' hkk ht hr hk' => hK _ _ ?_)
        have hU : hget (stepS σ o.dst r U).h = upd U (hget σ.h) := funext fun t => hget_append U σ.h t
        refine ops_sound hY os (i + 1) _ (stepS σ o.dst r U) loc' kn' (a.put o.dst v) w' hkk (by rw [hU]; exact ht.mc) (by rw [hU]; exact slots_put (slots_tr ht hs) hr (by rw [hz]; exact hdst)) (hput v).1 (by rw [(hput v).2]; exact hd.tr hm ht) (fun id hid => ?_) (by rw [hU]; exact hi.step hm ht) hn hQ'
        show id < σ.n + 4 * (i + 1)
        rcases hk' id hid with h1 | h1
        · have := hk id h1; omega
        · omega
    · refine wpListIn_step fun K' hK => ?_
      rw [if_neg (by rw [hw]; simp)]
      refine ⟨fun _ _ => trivial, hK _ _ ?_⟩
      refine ops_sound hY os (i + 1) _ (stepS σ o.dst (.d (.v undef)) []) loc kn (a.put o.dst undef) w h hm (slots_put hs (.d (.v undef)) (by rw [hz]; exact hdst)) (hput undef).1 (by rw [(hput undef).2]; exact hd) (fun id hid => ?_) hi hn hQ'
      show id < σ.n + 4 * (i + 1)
      have := hk id hid; omega
end
end Go.Pm
