/-
  The pure machine, part 5: an operation does in the world what vcOp says (the quiet ones, loads, stores).
-/
import Derived.OrdersIn
import Derived.TacticsIn
import Derived.Test.YtpoocfmphcgmkaaQri5
set_option linter.unusedVariables false
set_option linter.unusedSimpArgs false
set_option linter.unusedSimpArgs false
set_option linter.unusedVariables false
namespace Go.Pm
open Go.RowKit

/-- the frames of which the machine speaks: of a function, or of a round of a range over a function -/
abbrev FW (ro : Option Nat) : Fence := { Fence.wide with round := ro }
theorem calls_FW {ro : Option Nat} {n : Nat} {P : Program} {f : FuncId} {args : Array Value} {w : World} {R : Ending → World → Prop} (h : Calls P f args w R) : CallsIn (FW ro) n P f args w R := (callsIn_wide (n := n)).2 h

theorem TY_spec {P : Program} {t : TypeId} {T : Ty} (h : TY P t = some T) : ∃ i d z, P.info? t = some i ∧ P.underlying t = some d ∧ i.zero = some z ∧ T.size = i.size ∧ T.bytes = i.bytes ∧ T.zero = z.cells.toList ∧
    T.agg = (match d with | .struct _ | .array _ _ => true | _ => false) ∧ (T.slc = true → d = .slice T.elem) ∧ fldsOf P d = some T.flds ∧ T.arr = (match d with | .array _ _ => true | _ => false) ∧ T.elem = (match d with | .slice e => e | .array _ e => e | _ => 0) := by
  unfold TY at h
  split at h
  · rename_i i d hi hd
    split at h
    · rename_i z fl hz hf
      simp only [Option.some.injEq] at h
      subst h
      refine ⟨i, d, z, by assumption, by assumption, hz, rfl, rfl, rfl, rfl, fun hs => ?_, hf, rfl, rfl⟩
      cases d <;> simp at hs
      rfl
    · cases h
  · cases h

section
variable {P : Program} {E : Env} {loc : Locs} {kn : Nat → Prop} {w : World} {a : Act} {σ : St} {nid : Nat} {K : Kt}

abbrev SlotsOk (C : Cx) (hg : Nat → Option Ob) (loc : Locs) (kn : Nat → Prop) (t : Slots) (a : Act) : Prop := ∀ u, PRep C hg loc kn (get t u) (a.tmps.getD u undef)

theorem zPVRep {C : Cx} {hg : Nat → Option Ob} (v : Value) : PRep C hg loc kn (zPV v) v := by
  unfold zPV
  split
  · exact .nl
  · exact .d (.v _)
theorem zDRep {C : Cx} (v : Value) : Rep C (zD v) v := by
  unfold zD
  split
  · exact .nil
  · exact .v _
theorem evRep {C : Cx} {hg : Nat → Option Ob} {t : Slots} (h : SlotsOk C hg loc kn t a) (x : Operand) : PRep C hg loc kn (ev t x) (a.eval x) := by
  cases x with
  | tmp u => exact h u
  | const v => exact zPVRep v
  | global g => exact .any _
  | func f => exact .fn rfl (fun j p v h => by simp at h)

/-- how an operation ends that calls no function of Go -/
def Out (P : Program) (E : Env) (o : Oper) (σ : St) (nid : Nat) (loc : Locs) (kn : Nat → Prop) (w : World) (a : Act) (K : Kt) : Prop :=
  ∃ r U Rd v loc' kn' w', K σ r U Rd ∧ ((execOp a.eval o).run P w = .ok (.value v) w' ∨ ((execOp a.eval o).run P w = .ok .skip w' ∧ v = undef)) ∧
    Tr E (hget σ.h) loc kn w (upd U (hget σ.h)) loc' kn' w' ∧ PRep (cxOf E (upd U (hget σ.h)) loc' w') (upd U (hget σ.h)) loc' kn' r v ∧ ∀ id, kn' id → kn id ∨ (nid ≤ id ∧ id < nid + 4)

theorem upd_cons (x : Nat × Ob) (U : Heap) (g : Nat → Option Ob) : upd (x :: U) g = upd [x] (upd U g) := by
  funext t
  obtain ⟨u, p⟩ := x
  simp only [upd]

theorem Out.quiet {o : Oper} (hm : MC E (hget σ.h) loc kn w) {r : PV} {Rd : List Nat} {v : Value} (hK : K σ r [] Rd) (hrun : (execOp a.eval o).run P w = .ok (.value v) w) (hr : PRep (cxOf E (hget σ.h) loc w) (hget σ.h) loc kn r v) :
    Out P E o σ nid loc kn w a K := ⟨r, [], Rd, v, loc, kn, w, hK, .inl hrun, Tr.refl hm, hr, fun _ h => .inl h⟩

/-- the integer that stands in a slot -/
theorem PRep.int {C : Cx} {hg : Nat → Option Ob} {k : IntKind} {z : Int} {v : Value} (h : PRep C hg loc kn (.d (.v (.int k z))) v) : v = .int k z := by
  cases h with
  | d h => cases h; rfl
theorem PRep.val {C : Cx} {hg : Nat → Option Ob} {x v : Value} (h : PRep C hg loc kn (.d (.v x)) v) : v = x := by
  cases h with
  | d h => cases h; rfl

section
variable {hg : Nat → Option Ob} {C : Cx}
theorem arith_run {k : IntKind} {z : Int} {L : St → PV → Prop} (h : arith k z σ L) : L σ (intP k (k.wrap z)) := by
  unfold arith at h
  split at h
  · obtain ⟨⟨h1, h2⟩, h3⟩ := h
    have : IntKind.i64.wrap z = z := by rw [IntKind.wrap_i64]; omega
    rw [this]; exact h3
  · exact h

theorem run_equal_bool {t : TypeId} (h : P.underlying t = some .bool) (x y : Bool) (d : Nat) : (Op.equalIn (d + 1) t (.bool x) (.bool y)).run P w = .ok (x == y) w := by
  simp [Op.equalIn, run_underlying h]

theorem slcT_spec {t : TypeId} (h : slcT P t = true) : ∃ e, P.underlying t = some (.slice e) := by
  unfold slcT at h
  split at h
  · rename_i T hT
    obtain ⟨_, d, _, _, h2, _, _, _, _, _, h8, _⟩ := TY_spec hT
    exact ⟨_, by rw [h2, h8 h]⟩
  · cases h
theorem run_equal_nil {t e : TypeId} (h : P.underlying t = some (.slice e)) (ad : Addr) (n c d : Nat) : (Op.equalIn (d + 1) t (.slice (some ad) n c) (.slice none 0 0)).run P w = .ok false w := by
  simp [Op.equalIn, run_underlying h]
theorem binV_run {op : BinOp} {t : TypeId} {x y : PV} {u v : Value} {L : St → PV → Prop} (h : binV P op t x y σ L) (hx : PRep C hg loc kn x u) (hy : PRep C hg loc kn y v) :
    ∃ z, L σ (.d (.v z)) ∧ (binOp op t u v).run P w = .ok z w ∧ ∀ (o1 o2 : Operand), (eqGuard op t o1 o2 u v).run P w = .ok () w := by
  unfold binV at h
  split at h
  all_goals first | exact h.elim | skip
  case h_19 | h_20 =>
    obtain ⟨hk, h⟩ := h
    cases hy
    obtain ⟨e, he⟩ := slcT_spec hk
    cases hx with
    | d hx =>
      cases hx with
      | sl es k c b o f hc hm hk2 hcell hrep =>
        have hq := fun ad n c => run_equal_nil (w := w) he ad n c 9999
        exact ⟨_, h, by simp only [binOp, Op.equal, Sem.run_bind]; rw [show Op.maxDepth = 9999 + 1 from rfl, hq]; simp, fun o1 o2 => by simp [eqGuard]⟩
  all_goals
    have e1 := hx.val
    have e2 := hy.val
    subst e1 e2
  all_goals obtain ⟨hk, h⟩ := h
  case h_1 | h_2 | h_3 =>
    subst hk
    exact ⟨_, arith_run h, by simp [binOp, Op.intArith], fun o1 o2 => by simp [eqGuard]⟩
  case h_4 =>
    obtain ⟨rfl, hb⟩ := hk
    exact ⟨_, arith_run h, by simp [binOp, Op.intDiv, hb], fun o1 o2 => by simp [eqGuard]⟩
  case h_5 =>
    obtain ⟨rfl, hb⟩ := hk
    exact ⟨_, h, by simp [binOp, Op.intDiv, hb], fun o1 o2 => by simp [eqGuard]⟩
  case h_6 | h_7 | h_8 =>
    subst hk
    exact ⟨_, h, by simp [binOp, Op.intBits], fun o1 o2 => by simp [eqGuard]⟩
  case h_9 | h_10 =>
    exact ⟨_, h, by simp [binOp, Op.shift, show ¬ _ < (0 : Int) from Int.not_lt.2 hk], fun o1 o2 => by simp [eqGuard]⟩
  case h_11 | h_13 | h_14 | h_15 | h_16 =>
    subst hk
    exact ⟨_, h, by simp [binOp, Op.intCmp, BEq.beq], fun o1 o2 => by simp [eqGuard]⟩
  case h_12 =>
    subst hk
    exact ⟨_, h, by simp [binOp, Op.intCmp, bne, BEq.beq], fun o1 o2 => by simp [eqGuard]⟩
  case h_17 | h_18 =>
    have hu : P.underlying t = some .bool := by
      unfold isBool at hk
      split at hk
      · assumption
      · cases hk
    have hq := fun x y => run_equal_bool (w := w) hu x y 9999
    exact ⟨_, h, by simp only [binOp, Op.equal, Sem.run_bind]; rw [show Op.maxDepth = 9999 + 1 from rfl, hq]; simp [bne], fun o1 o2 => by simp [eqGuard]⟩

theorem unV_run {op : UnOp} {x : PV} {u : Value} {L : St → PV → Prop} (h : unV op x σ L) (hx : PRep C hg loc kn x u) : ∃ z, L σ (.d (.v z)) ∧ (Op.unary op u).run P w = .ok z w := by
  unfold unV at h
  split at h
  · obtain rfl := hx.val; exact ⟨_, h, by simp [Op.unary]⟩
  · obtain rfl := hx.val; exact ⟨_, arith_run h, by simp [Op.unary, Op.intArith]⟩
  · obtain rfl := hx.val; exact ⟨_, h, by simp [Op.unary, Op.intBits]⟩
  · exact h.elim

theorem kindOf_spec {t : TypeId} {k : IntKind} (h : kindOf P t = some k) : P.underlying t = some (.int k) := by
  unfold kindOf at h
  split at h
  · rename_i k' e; cases h; exact e
  · cases h
theorem got_spec {α : Type} {x : Option α} {L : St → α → Prop} (h : Got x σ L) : ∃ y, x = some y ∧ L σ y := by
  unfold Got at h
  cases x with
  | none => exact h.elim
  | some y => exact ⟨y, rfl, h⟩
theorem convV_run {src dst : TypeId} {x : PV} {u : Value} {L : St → PV → Prop} (h : convV P src dst x σ L) (hx : PRep C hg loc kn x u) : ∃ z, L σ (.d (.v z)) ∧ (convert src dst u).run P w = .ok z w := by
  unfold convV at h
  split at h
  · obtain rfl := hx.val
    obtain ⟨k', h1, h⟩ := got_spec h
    obtain ⟨k, h2, h⟩ := got_spec h
    exact ⟨_, h, by simp [convert, run_underlying (kindOf_spec h1), run_underlying (kindOf_spec h2), Conv.intToInt]⟩
  · exact h.elim
end
end
end Go.Pm
/-
  The pure machine, part 6: loads, addresses, new objects.
-/
set_option linter.unusedSimpArgs false
set_option linter.unusedVariables false
namespace Go.Pm
open Go.RowKit

section
variable {P : Program} {E : Env} {loc : Locs} {kn : Nat → Prop} {w : World} {a : Act} {σ : St} {nid : Nat} {K : Kt} {o : Oper}

theorem out_move {x : Operand} (ho : o.op = .move x ∨ o.op = .assign x) (h : K σ (ev σ.t x) [] []) (hm : MC E (hget σ.h) loc kn w) (hs : SlotsOk (cxOf E (hget σ.h) loc w) (hget σ.h) loc kn σ.t a) : Out P E o σ nid loc kn w a K :=
  Out.quiet hm h (by rcases ho with ho | ho <;> (unfold execOp; simp [ho])) (evRep hs x)

theorem out_pick {c x y : Operand} (ho : o.op = .pick c x y) (h : vcOp P o nid σ K) (hm : MC E (hget σ.h) loc kn w) (hs : SlotsOk (cxOf E (hget σ.h) loc w) (hget σ.h) loc kn σ.t a) : Out P E o σ nid loc kn w a K := by
  unfold vcOp at h
  simp only [ho] at h
  split at h
  · rename_i b hb
    have hc := evRep hs c
    rw [hb] at hc
    have hc := hc.val
    cases b with
    | true => exact Out.quiet hm (h.1 rfl) (by unfold execOp; simp [ho, hc, asBool]) (evRep hs x)
    | false => exact Out.quiet hm (h.2 rfl) (by unfold execOp; simp [ho, hc, asBool]) (evRep hs y)
  · exact h.elim

theorem out_extract {x : Operand} {i : Nat} (ho : o.op = .extract x i) (h : vcOp P o nid σ K) (hm : MC E (hget σ.h) loc kn w) (hs : SlotsOk (cxOf E (hget σ.h) loc w) (hget σ.h) loc kn σ.t a) : Out P E o σ nid loc kn w a K := by
  unfold vcOp at h
  simp only [ho] at h
  split at h
  · rename_i vs hv
    obtain ⟨hi, h⟩ := h
    have hx := evRep hs x
    rw [hv] at hx
    generalize a.eval x = u at hx
    cases hu : a.eval x with
    | tuple us =>
      have hx := evRep hs x
      rw [hv, hu] at hx
      cases hx with
      | tup hl hj =>
        have hius : i < us.size := by omega
        refine Out.quiet hm h (v := us[i]) (by unfold execOp; simp [ho, hu, Instr.extract, hius]) (hj i _ _ ?_ (by simp [hius]))
        rw [List.getD_eq_getElem?_getD, List.getElem?_eq_getElem hi]; rfl
    | _ => have hx := evRep hs x; rw [hv, hu] at hx; cases hx
  · exact h.elim

theorem out_bin {op : BinOp} {t t' : TypeId} {x y : Operand} (ho : o.op = .binOp op t x y t') (h : vcOp P o nid σ K) (hm : MC E (hget σ.h) loc kn w) (hs : SlotsOk (cxOf E (hget σ.h) loc w) (hget σ.h) loc kn σ.t a) : Out P E o σ nid loc kn w a K := by
  unfold vcOp at h
  simp only [ho] at h
  obtain ⟨z, h1, h2, h3⟩ := binV_run (w := w) h (evRep hs x) (evRep hs y)
  exact Out.quiet hm h1 (by unfold execOp; simp [ho, h2, h3]) (.d (.v z))
theorem out_un {op : UnOp} {t : TypeId} {x : Operand} (ho : o.op = .unOp op t x) (h : vcOp P o nid σ K) (hm : MC E (hget σ.h) loc kn w) (hs : SlotsOk (cxOf E (hget σ.h) loc w) (hget σ.h) loc kn σ.t a) : Out P E o σ nid loc kn w a K := by
  unfold vcOp at h
  simp only [ho] at h
  obtain ⟨z, h1, h2⟩ := unV_run (P := P) (w := w) h (evRep hs x)
  exact Out.quiet hm h1 (by unfold execOp; simp [ho, h2]) (.d (.v z))
theorem out_conv {s t : TypeId} {x : Operand} (ho : o.op = .convert s t x) (h : vcOp P o nid σ K) (hm : MC E (hget σ.h) loc kn w) (hs : SlotsOk (cxOf E (hget σ.h) loc w) (hget σ.h) loc kn σ.t a) : Out P E o σ nid loc kn w a K := by
  unfold vcOp at h
  simp only [ho] at h
  obtain ⟨z, h1, h2⟩ := convV_run (w := w) h (evRep hs x)
  exact Out.quiet hm h1 (by unfold execOp; simp [ho, h2]) (.d (.v z))

theorem out_makeFunc {fn : Fn} {first caps : Array Operand} (ho : o.op = .makeFunc fn first caps) (h : vcOp P o nid σ K) (hm : MC E (hget σ.h) loc kn w) (hs : SlotsOk (cxOf E (hget σ.h) loc w) (hget σ.h) loc kn σ.t a) : Out P E o σ nid loc kn w a K := by
  unfold vcOp at h
  simp only [ho] at h
  split at h
  · rename_i f
    obtain ⟨hf, h⟩ := h
    have : first = #[] := Array.eq_empty_of_size_eq_zero hf
    subst this
    refine Out.quiet hm h (v := .func (.func f) #[] (caps.map a.eval)) (by unfold execOp; simp [ho, Instr.makeFunc]) (.fn (by simp) (fun j p v h1 h2 => ?_))
    rw [List.getElem?_map] at h1
    obtain ⟨c, hc, rfl⟩ := Option.map_eq_some_iff.1 h1
    rw [Array.getElem?_map] at h2
    obtain ⟨c', hc', rfl⟩ := Option.map_eq_some_iff.1 h2
    have : c = c' := by rw [Array.getElem?_toList] at hc; rw [hc] at hc'; exact Option.some.inj hc'
    subst this
    exact evRep hs c
  · exact h.elim

theorem mapM_get {α β : Type} {f : α → Option β} : ∀ {l : List α} {r : List β}, l.mapM f = some r → ∀ (i : Nat) (y : β), r[i]? = some y → ∃ x, l[i]? = some x ∧ f x = some y
  | [], r, h, i, y, hy => by simp at h; subst h; cases hy
  | x :: l, r, h, i, y, hy => by
    simp only [List.mapM_cons, Option.bind_eq_bind, Option.pure_def] at h
    cases hx : f x with
    | none => simp [hx] at h
    | some z =>
      cases hr : l.mapM f with
      | none => simp [hx, hr] at h
      | some rest =>
        simp only [hx, hr, Option.bind_some, Option.some.injEq] at h
        subst h
        cases i with
        | zero => cases hy; exact ⟨x, rfl, hx⟩
        | succ i => exact mapM_get hr i y hy
theorem flds_spec {s : TypeId} {T : Ty} (h : TY P s = some T) {f : Nat} {fo : Nat × Nat} (hf : T.flds[f]? = some fo) : ∃ fs g, P.underlying s = some (.struct fs) ∧ fs[f]? = some g ∧ fo = (g.offset, P.cellsOf g.type) := by
  obtain ⟨i, d, z, h1, h2, h3, h4, h5, h6, h7, h8, h9, _⟩ := TY_spec h
  cases d with
  | struct fs =>
    have h9 : fs.toList.mapM (fun f : Field => (P.info? f.type).map fun i => (f.offset, i.size)) = some T.flds := h9
    obtain ⟨g, hg, hg2⟩ := mapM_get h9 f fo hf
    refine ⟨fs, g, h2, by simpa using hg, ?_⟩
    obtain ⟨i, hi, rfl⟩ := Option.map_eq_some_iff.1 hg2
    simp [Program.cellsOf, hi]
  | _ => simp only [fldsOf, Option.some.injEq] at h9; rw [← h9] at hf; cases hf
theorem sizeOf_run {t : TypeId} (h : 0 < P.cellsOf t) : (sizeOf t).run P w = .ok (P.cellsOf t) w := by
  unfold Program.cellsOf at *
  cases hi : P.info? t with
  | none => simp [hi] at h
  | some i => simp [sizeOf, typeInfo, hi]

theorem out_fieldAddr {s : TypeId} {x : Operand} {f : Nat} (ho : o.op = .fieldAddr s x f) (h : vcOp P o nid σ K) (hm : MC E (hget σ.h) loc kn w) (hs : SlotsOk (cxOf E (hget σ.h) loc w) (hget σ.h) loc kn σ.t a) : Out P E o σ nid loc kn w a K := by
  unfold vcOp at h
  simp only [ho] at h
  obtain ⟨T, hT, h⟩ := got_spec h
  obtain ⟨fo, hfo, h⟩ := got_spec h
  obtain ⟨fs, g, hu, hg, rfl⟩ := flds_spec hT hfo
  have hx := evRep hs x
  have key : ∀ (b off : Nat), 0 < P.cellsOf g.type → a.eval x = .pointer (some ⟨b, off, none⟩) → (execOp a.eval o).run P w = .ok (.value (.pointer (some ⟨b, off + g.offset, none⟩))) w := fun b off hp e => by
    have hz := sizeOf_run (w := w) hp
    have hne : ¬ P.cellsOf g.type = 0 := by omega
    unfold execOp
    simp [ho, e, Instr.fieldAt, run_underlying hu, hg, Instr.sureAddr, fieldPlace, hz, hne, Addr.add_lit]
  split at h
  · rename_i id ver i off he
    obtain ⟨ob, hob, h⟩ := got_spec h
    rw [he] at hx
    have hnx : ∀ q, a.eval x = q → PRep (cxOf E (hget σ.h) loc w) (hget σ.h) loc kn (.pr id ver i off) q := fun q e => e ▸ hx
    split at h
    · rename_i cs
      obtain ⟨hp, h⟩ := h
      obtain ⟨b, cap, c, e0, hl, _⟩ := hm.box hob
      cases hx with
      | @pr _ _ _ _ _ hk ho1 hv hb ha =>
        have e1 := hb cs hob b cap hl
        refine Out.quiet hm h (key b off hp e1) (.pr hk rfl hv (fun cs' h' b' cap' hl' => ?_) (fun a' h' => by rw [hob] at h'; cases h'))
        rw [hl] at hl'; cases hl'; rfl
    · rename_i ar
      obtain ⟨⟨hp, hver, hil⟩, h⟩ := h
      obtain ⟨hk0, hA⟩ := hm.arr hob
      cases hl : loc id with
      | no =>
        rw [hl] at hA
        have hA : ar.es = [] := hA
        rw [hA] at hil
        exact absurd hil (by simp)
      | tb lo rl => rw [hl] at hA; exact hA.elim
      | pl b cap =>
        cases hx with
        | @pr _ _ _ _ _ hk ho1 hv hb ha =>
          have e1 := ha ar hob hver b cap hl
          refine Out.quiet hm h (key b _ hp e1) (.pr hk rfl hv (fun cs' h' => by rw [hob] at h'; cases h') (fun a' h' _ b' cap' hl' => ?_))
          rw [hob] at h'; cases h'
          rw [hl] at hl'; cases hl'
          rw [Nat.add_assoc]
    · exact h.elim
  · rename_i id r i off he
    obtain ⟨ob, hob, h⟩ := got_spec h
    rw [he] at hx
    split at h
    · rename_i T
      obtain ⟨es, hes, ⟨hp, hil⟩, h⟩ := h
      obtain ⟨lo, rl, hl, hT⟩ := hm.tab hob
      obtain ⟨b, cap, hrl⟩ := (hT.row r es hes).at hil
      cases hx with
      | @pw _ _ _ _ _ hk ho1 hv hh =>
        have e1 := hh T es hob hes lo rl b cap hl hrl
        refine Out.quiet hm h (key b _ hp e1) (.pw hk rfl hv (fun T' es' h' he' lo' rl' b' cap' hl' hr' => ?_))
        rw [hob] at h'; cases h'
        rw [hl] at hl'; cases hl'
        rw [hrl] at hr'; cases hr'
        rw [Nat.add_assoc]
    · exact h.elim
  · rename_i cs he
    obtain ⟨hp, h⟩ := h
    rw [he] at hx
    generalize hav : a.eval x = av at hx
    cases hx with
    | @bw _ b q fv hcell hrep =>
      refine Out.quiet hm h (key b q hp hav) (.bw (fun j => fv (g.offset + j)) (fun j p hj => ?_) (fun j p hj => ?_))
      · rw [List.getElem?_drop] at hj
        have := hcell _ _ hj
        rw [← Nat.add_assoc] at this
        exact this
      · rw [List.getElem?_drop] at hj
        exact hrep _ _ hj
  · exact h.elim

/-! ### loads -/
theorem run_load_cells {t : TypeId} {T : Ty} (hT : TY P t = some T) (b q : Nat) (cs : List Value) (hl : cs.length = T.size) (hc : ∀ (j : Nat) (v : Value), cs[j]? = some v → w.cell? ⟨b, q + j, none⟩ = some v) (h1 : T.agg = false → T.size = 1) :
    (loadVar t ⟨b, q, none⟩).run P w = .ok (if T.agg then .agg cs.toArray else cs.getD 0 undef) w := by
  obtain ⟨i, d, z, hi, hd, hz, e1, e2, e3, e4, _⟩ := TY_spec hT
  cases hg : T.agg with
  | true =>
    have hagg : (isAgg t).run P w = .ok true w := by
      unfold isAgg
      rw [Sem.run_bind, run_underlying hd w]
      rw [hg] at e4
      cases d <;> simp at e4 <;> rfl
    have hrun := run_loadCells_list (P := P) w ⟨b, q, none⟩ cs (fun j v hj => by rw [Addr.add_lit]; exact hc j v hj)
    rw [hl, e1] at hrun
    simp [loadVar, hagg, sizeOf, typeInfo, hi, hrun]
  | false =>
    have hagg : (isAgg t).run P w = .ok false w := by
      unfold isAgg
      rw [Sem.run_bind, run_underlying hd w]
      rw [hg] at e4
      cases d <;> simp at e4 <;> rfl
    have hl1 : cs.length = 1 := hl.trans (h1 hg)
    match cs, hl1 with
    | [v], _ =>
      have := hc 0 v rfl
      simp only [Nat.add_zero] at this
      simp [loadVar, hagg, run_load, this]

theorem mkRep {C : Cx} {hg : Nat → Option Ob} {agg : Bool} {ps : List PV} {cs : List Value} (hl : ps.length = cs.length) (h1 : agg = false → ps.length = 1) (h : ∀ (j : Nat) (p : PV) (v : Value), ps[j]? = some p → cs[j]? = some v → PRep C hg loc kn p v) :
    PRep C hg loc kn (mk agg ps) (if agg then .agg cs.toArray else cs.getD 0 undef) := by
  cases agg with
  | true => exact .agg (by simp [hl]) (fun j p v hp hv => h j p v hp (by simpa using hv))
  | false =>
    match ps, cs, h1 rfl, hl with
    | [p], [v], _, _ => exact h 0 p v rfl rfl

theorem out_load {t : TypeId} {x : Operand} (ho : o.op = .load t x) (h : vcOp P o nid σ K) (hm : MC E (hget σ.h) loc kn w) (hs : SlotsOk (cxOf E (hget σ.h) loc w) (hget σ.h) loc kn σ.t a) : Out P E o σ nid loc kn w a K := by
  unfold vcOp at h
  simp only [ho] at h
  obtain ⟨T, hT, h⟩ := got_spec h
  unfold loadV at h
  have hx := evRep hs x
  have key : ∀ (b q : Nat) (cs : List Value), a.eval x = .pointer (some ⟨b, q, none⟩) → cs.length = T.size → (T.agg = false → T.size = 1) → (∀ (j : Nat) (v : Value), cs[j]? = some v → w.cell? ⟨b, q + j, none⟩ = some v) →
      (execOp a.eval o).run P w = .ok (.value (if T.agg then .agg cs.toArray else cs.getD 0 undef)) w := fun b q cs e hl h1 hc => by
    unfold execOp
    simp [ho, e, Instr.loadAt, Instr.sureAddr, run_load_cells hT b q cs hl hc h1]
  split at h
  · rename_i id ver i off he
    obtain ⟨ob, hob, h⟩ := got_spec h
    rw [he] at hx
    split at h
    · rename_i cs
      obtain ⟨⟨hsz, h1⟩, h⟩ := h
      obtain ⟨b, cap, c, e0, hl, hblk, hcl, hcs⟩ := hm.box hob
      cases hx with
      | @pr _ _ _ _ _ hk ho1 hv hb ha =>
        have e1 := hb cs hob b cap hl
        have hlen : ((c.toList.drop off).take T.size).length = T.size := by rw [List.length_take, List.length_drop, Array.length_toList]; omega
        refine Out.quiet hm h (key b off _ e1 hlen h1 (fun j v hj => ?_)) (mkRep (by rw [hlen, List.length_take, List.length_drop]; omega) (fun hg => by rw [List.length_take, List.length_drop]; have := h1 hg; omega) (fun j p v hp hj => ?_))
        · have hjl : j < T.size := by rw [← hlen]; exact (List.getElem?_eq_some_iff.1 hj).1
          rw [List.getElem?_take_of_lt hjl, List.getElem?_drop, Array.getElem?_toList] at hj
          exact (rd_row hblk hj).1
        · have hjl : j < T.size := by rw [← hlen]; exact (List.getElem?_eq_some_iff.1 hj).1
          rw [List.getElem?_take_of_lt hjl, List.getElem?_drop] at hp hj
          rw [Array.getElem?_toList] at hj
          obtain ⟨u, h2, h3, h4⟩ := hcs _ p hp
          rw [hj] at h2
          cases h2
          exact h4
    · rename_i ar
      obtain ⟨⟨hver, hsz, h1⟩, e, he', h⟩ := h
      obtain ⟨hk0, hA⟩ := hm.arr hob
      cases hl : loc id with
      | no =>
        rw [hl] at hA
        have hA : ar.es = [] := hA
        rw [hA] at he'
        cases he'
      | tb lo rl => rw [hl] at hA; exact hA.elim
      | pl b cap =>
        rw [hl] at hA
        obtain ⟨c, h2, h3, h4, h5, h6, h7⟩ := hA
        cases hx with
        | @pr _ _ _ _ _ hk ho1 hv hb ha =>
          have e1 := ha ar hob hver b cap hl
          have hel : e.length = ar.k := h6 e (List.mem_of_getElem? he')
          have hil : i < ar.es.length := (List.getElem?_eq_some_iff.1 he').1
          have hir : (i + 1) * ar.k ≤ cap * ar.k := Nat.mul_le_mul_right _ (by omega)
          rw [Nat.add_mul] at hir
          have hlen : ((c.toList.drop (i * ar.k + off)).take T.size).length = T.size := by rw [List.length_take, List.length_drop, Array.length_toList]; omega
          refine Out.quiet hm h (key b _ _ e1 hlen h1 (fun j v hj => ?_)) (mkRep (by rw [hlen, List.length_map, List.length_take, List.length_drop]; omega) (fun hg => by rw [List.length_map, List.length_take, List.length_drop]; have := h1 hg; omega) (fun j p v hp hj => ?_))
          · have hjl : j < T.size := by rw [← hlen]; exact (List.getElem?_eq_some_iff.1 hj).1
            rw [List.getElem?_take_of_lt hjl, List.getElem?_drop, Array.getElem?_toList] at hj
            exact (rd_row h2 hj).1
          · have hjl : j < T.size := by rw [← hlen]; exact (List.getElem?_eq_some_iff.1 hj).1
            rw [List.getElem?_take_of_lt hjl, List.getElem?_drop, Array.getElem?_toList] at hj
            rw [List.getElem?_map, List.getElem?_take_of_lt hjl, List.getElem?_drop] at hp
            obtain ⟨d, hd, rfl⟩ := Option.map_eq_some_iff.1 hp
            obtain ⟨u, h8, h9, h10⟩ := h7 i (off + j) e d he' hd
            rw [← Nat.add_assoc, hj] at h8
            cases h8
            exact .d h10
    · exact h.elim
  · rename_i id ver i he
    obtain ⟨ob, hob, h⟩ := got_spec h
    rw [he] at hx
    split at h
    · rename_i t
      obtain ⟨⟨hver, hagg, hsz⟩, r, hr, es, hes, h⟩ := h
      obtain ⟨lo, rl, hl, hT⟩ := hm.tab hob
      have hout := hT.out
      cases hlo : lo with
      | no =>
        rw [hlo] at hout
        have hout : t.out = [] := hout
        rw [hout] at hr
        cases hr
      | tb lo' rl' => rw [hlo] at hout; exact hout.elim
      | pl b cap =>
        rw [hlo] at hout hl
        obtain ⟨c, h2, h3, h4, h5, h6⟩ := hout
        have hci := h6 i r es hr hes
        cases hx with
        | @po _ _ _ _ hk ho1 hv hh =>
          have e1 := hh t hob hver b cap rl hl
          have hrow : r < t.rows.length := by
            unfold Tab.row at hes
            cases hq : t.rows[r]? with
            | none => rw [hq] at hes; cases hes
            | some q => exact (List.getElem?_eq_some_iff.1 hq).1
          have hone : ((rl r).val es.length).oneCell' = true := by cases rl r <;> rfl
          have := key b i [(rl r).val es.length] e1 (by simp [hsz]) (fun _ => hsz) (fun j v hj => by
            cases j with
            | zero => cases hj; exact (rd_row h2 hci).1
            | succ j => cases hj)
          rw [hagg] at this
          refine Out.quiet hm h this (.sw hk hone (fun T' h' => by rw [hob] at h'; cases h'; exact hrow) (fun T' es' h' he' lo' rl' hl' => ?_))
          rw [hob] at h'; cases h'
          rw [hl] at hl'; cases hl'
          rw [hes] at he'; cases he'
          rfl
    · exact h.elim
  · rename_i id r i off he
    obtain ⟨ob, hob, h⟩ := got_spec h
    rw [he] at hx
    split at h
    · rename_i t
      obtain ⟨⟨hsz, h1⟩, es, hes, e, he', h⟩ := h
      obtain ⟨lo, rl, hl, hT⟩ := hm.tab hob
      have hA := hT.row r es hes
      have hil : i < es.length := (List.getElem?_eq_some_iff.1 he').1
      obtain ⟨b, cap, hrl⟩ := hA.at hil
      rw [hrl] at hA
      obtain ⟨c, h2, h3, h4, h5, h6, h7⟩ := hA
      cases hx with
      | @pw _ _ _ _ _ hk ho1 hv hh =>
        have e1 := hh t es hob hes lo rl b cap hl hrl
        have hel : e.length = t.k := h6 e (List.mem_of_getElem? he')
        have h3 : c.size = cap * t.k := h3
        have h4 : es.length ≤ cap := h4
        have hir : (i + 1) * t.k ≤ cap * t.k := Nat.mul_le_mul_right _ (by omega)
        rw [Nat.add_mul] at hir
        have hlen : ((c.toList.drop (i * t.k + off)).take T.size).length = T.size := by rw [List.length_take, List.length_drop, Array.length_toList]; omega
        refine Out.quiet hm h (key b _ _ e1 hlen h1 (fun j v hj => ?_)) (mkRep (by rw [hlen, List.length_map, List.length_take, List.length_drop]; omega) (fun hg => by rw [List.length_map, List.length_take, List.length_drop]; have := h1 hg; omega) (fun j p v hp hj => ?_))
        · have hjl : j < T.size := by rw [← hlen]; exact (List.getElem?_eq_some_iff.1 hj).1
          rw [List.getElem?_take_of_lt hjl, List.getElem?_drop, Array.getElem?_toList] at hj
          exact (rd_row h2 hj).1
        · have hjl : j < T.size := by rw [← hlen]; exact (List.getElem?_eq_some_iff.1 hj).1
          rw [List.getElem?_take_of_lt hjl, List.getElem?_drop, Array.getElem?_toList] at hj
          rw [List.getElem?_map, List.getElem?_take_of_lt hjl, List.getElem?_drop] at hp
          obtain ⟨d, hd, rfl⟩ := Option.map_eq_some_iff.1 hp
          obtain ⟨u, h8, h9, h10⟩ := h7 i (off + j) e d he' hd
          have h8 : c[i * t.k + (off + j)]? = some u := h8
          rw [← Nat.add_assoc, hj] at h8
          cases h8
          exact .d h10
    · exact h.elim
  · rename_i cs he
    obtain ⟨⟨hsz, h1⟩, h⟩ := h
    rw [he] at hx
    generalize hav : a.eval x = av at hx
    cases hx with
    | @bw _ b q fv hcell hrep =>
      have hlen : (((List.range T.size).map fv)).length = T.size := by simp
      refine Out.quiet hm h (key b q _ hav hlen h1 (fun j v hj => ?_)) (mkRep (by rw [hlen, List.length_map, List.length_take]; omega) (fun hg => by rw [List.length_map, List.length_take]; have := h1 hg; omega) (fun j p v hp hj => ?_))
      · have hjl : j < T.size := by rw [← hlen]; exact (List.getElem?_eq_some_iff.1 hj).1
        rw [List.getElem?_map, List.getElem?_range hjl] at hj
        cases hj
        obtain ⟨p, hp⟩ : ∃ p, cs[j]? = some p := ⟨_, List.getElem?_eq_getElem (by omega)⟩
        exact (hcell j p hp).1.1
      · have hjl : j < T.size := by rw [← hlen]; exact (List.getElem?_eq_some_iff.1 hj).1
        rw [List.getElem?_map, List.getElem?_range hjl] at hj
        cases hj
        rw [List.getElem?_map, List.getElem?_take_of_lt hjl] at hp
        obtain ⟨d, hd, rfl⟩ := Option.map_eq_some_iff.1 hp
        exact .d (hrep j d hd)
  · rename_i cs he
    obtain ⟨⟨hsz, h1⟩, h⟩ := h
    rw [he] at hx
    generalize hav : a.eval x = av at hx
    cases hx with
    | @lp _ b q fv hcell hrep =>
      have hlen : (((List.range T.size).map fv)).length = T.size := by simp
      refine Out.quiet hm h (key b q _ hav hlen h1 (fun j v hj => ?_)) (mkRep (by rw [hlen, List.length_take]; omega) (fun hg => by rw [List.length_take]; have := h1 hg; omega) (fun j p v hp hj => ?_))
      · have hjl : j < T.size := by rw [← hlen]; exact (List.getElem?_eq_some_iff.1 hj).1
        rw [List.getElem?_map, List.getElem?_range hjl] at hj
        cases hj
        obtain ⟨p, hp⟩ : ∃ p, cs[j]? = some p := ⟨_, List.getElem?_eq_getElem (by omega)⟩
        exact (hcell j p hp).1.1
      · have hjl : j < T.size := by rw [← hlen]; exact (List.getElem?_eq_some_iff.1 hj).1
        rw [List.getElem?_map, List.getElem?_range hjl] at hj
        cases hj
        rw [List.getElem?_take_of_lt hjl] at hp
        exact hrep j p hp
  · exact h.elim

/-! ### the place of an element -/
theorem size_run {t : TypeId} {T : Ty} (hT : TY P t = some T) : (sizeOf t).run P w = .ok T.size w := by
  obtain ⟨i, d, z, hi, hd, hz, e1, _⟩ := TY_spec hT
  simp [sizeOf, typeInfo, hi, e1]
theorem slc_spec {t : TypeId} {T : Ty} (hT : TY P t = some T) (h : T.slc = true) : P.underlying t = some (.slice T.elem) := by
  obtain ⟨i, d, z, hi, hd, hz, e1, e2, e3, e4, e5, _⟩ := TY_spec hT
  rw [hd, e5 h]

theorem aggP_spec {C : Cx} {hg : Nat → Option Ob} {p : PV} {v : Value} {cs : List PV} (h : aggP p = some cs) (hr : PRep C hg loc kn p v) : ∃ vs, v = .agg vs ∧ vs.size = cs.length ∧ ∀ (j : Nat) (q : PV) (u : Value), cs[j]? = some q → vs[j]? = some u → PRep C hg loc kn q u := by
  cases hr with
  | agg hl hj => cases h; exact ⟨_, rfl, hl, hj⟩
  | d hx =>
    cases hx with
    | agg cs' vs' hl hj =>
      cases h
      refine ⟨_, rfl, by simpa using hl, fun j q u hq hu => ?_⟩
      rw [List.getElem?_map] at hq
      obtain ⟨x, hx, rfl⟩ := Option.map_eq_some_iff.1 hq
      exact .d (hj j x u hx hu)
    | _ => cases h
  | _ => cases h
theorem part_run {C : Cx} {hg : Nat → Option Ob} {e : TypeId} {T : Ty} (hT : TY P e = some T) {cs : List PV} {vs : Array Value} {off : Nat} (hl : vs.size = cs.length) (hj : ∀ (j : Nat) (q : PV) (u : Value), cs[j]? = some q → vs[j]? = some u → PRep C hg loc kn q u) (ho : off + T.size ≤ cs.length) (hz : T.agg = false → T.size = 1) :
    ∃ v, (part e vs off).run P w = .ok v w ∧ PRep C hg loc kn (mk T.agg ((cs.drop off).take T.size)) v := by
  obtain ⟨i, d, z, hi, hd, hz', e1, e2, e3, e4, e5, e6, e7⟩ := TY_spec hT
  have hag : (isAgg e).run P w = .ok T.agg w := by
    rw [e4]
    unfold isAgg
    simp only [Sem.run_bind, run_underlying hd, Result.andThen_ok]
    cases d <;> rfl
  have hsz : (sizeOf e).run P w = .ok T.size w := by simp [sizeOf, typeInfo, hi, e1]
  unfold part
  simp only [Sem.run_bind, hag, Result.andThen_ok]
  cases hag2 : T.agg with
  | true =>
    simp only [if_true, Sem.run_bind, hsz, Result.andThen_ok, Sem.run_pure, mk]
    refine ⟨_, rfl, .agg (by simp; omega) fun j q u hq hu => ?_⟩
    rw [List.getElem?_take] at hq
    split at hq
    · rw [List.getElem?_drop] at hq
      rw [Array.getElem?_extract] at hu
      split at hu
      · exact hj _ _ _ hq hu
      · cases hu
    · cases hq
  | false =>
    have h1 := hz hag2
    have hlt : off < vs.size := by omega
    simp only [Bool.false_eq_true, if_false, Array.getElem?_eq_getElem hlt, Sem.run_pure, mk]
    refine ⟨_, rfl, ?_⟩
    have hlt2 : off < cs.length := by omega
    have : (cs.drop off).take T.size = [cs[off]] := by rw [h1, List.drop_eq_getElem_cons hlt2]; rfl
    rw [this]
    exact hj off _ _ (List.getElem?_eq_getElem hlt2) (Array.getElem?_eq_getElem hlt)
theorem out_field {s : TypeId} {x : Operand} {f : Nat} (ho : o.op = .field s x f) (h : vcOp P o nid σ K) (hm : MC E (hget σ.h) loc kn w) (hs : SlotsOk (cxOf E (hget σ.h) loc w) (hget σ.h) loc kn σ.t a) : Out P E o σ nid loc kn w a K := by
  unfold vcOp at h
  simp only [ho] at h
  obtain ⟨cs, hcs, h⟩ := got_spec h
  obtain ⟨e, he, h⟩ := got_spec h
  obtain ⟨⟨hle, h1⟩, h⟩ := h
  obtain ⟨vs, hv, hl, hj⟩ := aggP_spec hcs (evRep hs x)
  unfold fldOf at he
  split at he
  · rename_i fs hu
    split at he
    · rename_i fl hf
      obtain ⟨T, hT, rfl⟩ := Option.map_eq_some_iff.1 he
      obtain ⟨v, hr, hp⟩ := part_run (w := w) hT hl hj hle h1
      refine Out.quiet hm h (v := v) ?_ hp
      unfold execOp
      simp only [ho, hv, Instr.field, Sem.run_bind, run_underlying hu, Result.andThen_ok, hf, asAgg, Sem.run_pure, hr]
    · cases he
  · cases he
theorem out_indexAddr {t : TypeId} {x ix : Operand} (ho : o.op = .indexAddr t x ix) (h : vcOp P o nid σ K) (hm : MC E (hget σ.h) loc kn w) (hs : SlotsOk (cxOf E (hget σ.h) loc w) (hget σ.h) loc kn σ.t a) : Out P E o σ nid loc kn w a K := by
  unfold vcOp at h
  simp only [ho] at h
  obtain ⟨T, hT, h⟩ := got_spec h
  unfold idxV at h
  have hx := evRep hs x
  have hi := evRep hs ix
  split at h
  · rename_i kk z hz
    rw [hz] at hi
    have hiv := hi.val
    split at h
    · rename_i hslc
      have hu := slc_spec hT hslc
      have key : ∀ (E2 : Ty), TY P T.elem = some E2 → ∀ (b q n c : Nat), a.eval x = .slice (some ⟨b, q, none⟩) n c → 0 ≤ z → z < n → (execOp a.eval o).run P w = .ok (.value (.pointer (some ⟨b, q + z.toNat * E2.size, none⟩))) w := fun E2 hE b q n c e h0 h1 => by
        unfold execOp
        simp [ho, e, hiv, Instr.indexAt, asIntOf, run_underlying hu, h0, h1, size_run hE, Addr.add_lit]
      split at h
      · rename_i id ver he
        obtain ⟨ob, hob, h⟩ := got_spec h
        rw [he] at hx
        split at h
        · rename_i ar
          obtain ⟨E2, hE, h⟩ := got_spec h
          obtain ⟨⟨hver, hk2, h0, h1⟩, h⟩ := h
          obtain ⟨hk0, hA⟩ := hm.arr hob
          generalize hav : a.eval x = av at hx
          cases hx with
          | sr hk ho1 hv hh =>
            have hh := hh ar hob hver
            cases hl : loc id with
            | no =>
              rw [hl] at hA
              have hA : ar.es = [] := hA
              rw [hA] at h1
              exact absurd h1 (by simp)
            | tb lo rl => rw [hl] at hA; exact hA.elim
            | pl b cap =>
              rw [hl] at hh
              refine Out.quiet hm h (key E2 hE b 0 _ _ (hav.trans hh) h0 (by omega)) (.pr hk rfl (fun a' h' => by rw [hob] at h'; cases h'; omega) (fun cs' h' => by rw [hob] at h'; cases h') (fun a' h' _ b' cap' hl' => ?_))
              rw [hob] at h'; cases h'
              rw [hl] at hl'; cases hl'
              rw [hk2, Nat.zero_add, Nat.add_zero]
        · exact h.elim
      · rename_i id ver he
        obtain ⟨ob, hob, h⟩ := got_spec h
        rw [he] at hx
        split at h
        · rename_i tt
          obtain ⟨E2, hE, h⟩ := got_spec h
          obtain ⟨⟨hver, hk2, h0, h1⟩, h⟩ := h
          obtain ⟨lo, rl, hl, hT2⟩ := hm.tab hob
          generalize hav : a.eval x = av at hx
          cases hx with
          | st hk ho1 hv hh =>
            have hh := hh tt hob hver lo rl hl
            have hout := hT2.out
            cases hlo : lo with
            | no => rw [hlo] at hout; have hout : tt.out = [] := hout; rw [hout] at h1; exact absurd h1 (by simp)
            | tb lo' rl' => rw [hlo] at hout; exact hout.elim
            | pl b cap =>
              rw [hlo] at hh hl
              refine Out.quiet hm h (key E2 hE b 0 _ _ (hav.trans hh) h0 (by omega)) (.po hk rfl (fun a' h' => by rw [hob] at h'; cases h'; omega) (fun a' h' _ b' cap' rl' hl' => ?_))
              rw [hl] at hl'; cases hl'
              rw [hk2, Nat.zero_add, Nat.mul_one]
        · exact h.elim
      · rename_i id ver o1 n1 he
        obtain ⟨ob, hob, h⟩ := got_spec h
        rw [he] at hx
        split at h
        · rename_i tt
          obtain ⟨E2, hE, h⟩ := got_spec h
          obtain ⟨⟨hver, hk2, h0, h1⟩, h⟩ := h
          obtain ⟨lo, rl, hl, hT2⟩ := hm.tab hob
          generalize hav : a.eval x = av at hx
          cases hx with
          | tv hk ho1 hv hh =>
            obtain ⟨hon, hh⟩ := hh tt hob hver lo rl hl
            cases hlo : lo with
            | no => rw [hlo] at hh; exact absurd h1 (by omega)
            | tb lo' rl' => rw [hlo] at hh; exact hh.elim
            | pl b cap =>
              rw [hlo] at hh hl
              obtain ⟨q, c, hh2, hq, _, _⟩ := hh
              have hq := hq (by omega)
              subst hq
              refine Out.quiet hm h (key E2 hE b _ _ _ (hav.trans hh2) h0 (by omega)) (.po hk rfl (fun a' h' => by rw [hob] at h'; cases h'; omega) (fun a' h' _ b' cap' rl' hl' => ?_))
              rw [hl] at hl'; cases hl'
              rw [hk2, Nat.mul_one]
        · exact h.elim
      · rename_i id r he
        obtain ⟨ob, hob, h⟩ := got_spec h
        rw [he] at hx
        split at h
        · rename_i tt
          obtain ⟨E2, hE, h⟩ := got_spec h
          obtain ⟨es, hes, ⟨hk2, h0, h1⟩, h⟩ := h
          obtain ⟨lo, rl, hl, hT2⟩ := hm.tab hob
          obtain ⟨b, cap, hrl⟩ := (hT2.row r es hes).at h1
          generalize hav : a.eval x = av at hx
          cases hx with
          | sw hk ho1 hv hh =>
            have hh := hh tt es hob hes lo rl hl
            rw [hrl] at hh
            refine Out.quiet hm h (key E2 hE b 0 _ _ (hav.trans hh) h0 (by omega)) (.pw hk rfl hv (fun T' es' h' he' lo' rl' b' cap' hl' hr' => ?_))
            rw [hob] at h'; cases h'
            rw [hl] at hl'; cases hl'
            rw [hrl] at hr'; cases hr'
            rw [hk2, Nat.zero_add, Nat.add_zero]
        · exact h.elim
      · rename_i es he
        obtain ⟨E2, hE, h⟩ := got_spec h
        obtain ⟨h0, e, he', hel, h⟩ := h
        rw [he] at hx
        generalize hav : a.eval x = av at hx
        cases hx with
        | d hr =>
          cases hr with
          | nil => cases he'
          | emp => cases he'
          | sl _ k c b q fv hc hmx hk hcell hrep =>
            have hil : z.toNat < es.length := (List.getElem?_eq_some_iff.1 he').1
            have hke : k = E2.size := by rw [← hk e (List.mem_of_getElem? he'), hel]
            refine Out.quiet hm h (key E2 hE b q _ _ hav h0 (by omega)) (.bw (fv z.toNat) (fun j p hj => ?_) (fun j p hj => hrep _ j e p he' hj))
            obtain ⟨g1, g2, g3, g4⟩ := hcell _ j e p he' hj
            rw [← hke]
            exact ⟨g1, g2, g3⟩
      · rename_i cs he
        obtain ⟨E2, hE, h⟩ := got_spec h
        obtain ⟨⟨hk2, h0, h1⟩, h⟩ := h
        rw [he] at hx
        generalize hav : a.eval x = av at hx
        cases hx with
        | @lt _ b c f hc hmx hcell hrep =>
          have := key E2 hE b 0 _ _ hav h0 (by omega)
          rw [hk2, Nat.mul_one, Nat.zero_add] at this
          refine Out.quiet hm h this (.lp (fun j => f (z.toNat + j)) (fun j p hj => ?_) (fun j p hj => ?_))
          · rw [List.getElem?_drop] at hj
            exact hcell _ p hj
          · rw [List.getElem?_drop] at hj
            exact hrep _ p hj
      · exact h.elim
    · exact h.elim
  · exact h.elim

theorem out_nilCheck {x : Operand} (ho : o.op = .nilCheck x) (h : vcOp P o nid σ K) (hm : MC E (hget σ.h) loc kn w) (hs : SlotsOk (cxOf E (hget σ.h) loc w) (hget σ.h) loc kn σ.t a) : Out P E o σ nid loc kn w a K := by
  unfold vcOp at h
  simp only [ho] at h
  have hx := evRep hs x
  have key : ∀ b q, a.eval x = .pointer (some ⟨b, q, none⟩) → (execOp a.eval o).run P w = .ok (.value (a.eval x)) w := fun b q e => by
    unfold execOp
    simp [ho, e]
  split at h
  · rename_i id ver i off he
    obtain ⟨ob, hob, h⟩ := got_spec h
    rw [he] at hx
    split at h
    · obtain ⟨b, cap, c, e0, hl, _⟩ := hm.box hob
      have e : a.eval x = .pointer (some ⟨b, off, none⟩) := by
        cases hx with
        | pr hk ho1 hv hb ha => exact hb _ hob b cap hl
      exact Out.quiet hm h (key _ _ e) hx
    · exact h.elim
  · rename_i cs he
    rw [he] at hx
    refine Out.quiet hm h ?_ hx
    generalize hav : a.eval x = av at hx
    cases hx with
    | bw f hcell hrep => rw [← hav]; exact key _ _ hav
  · rename_i cs he
    rw [he] at hx
    refine Out.quiet hm h ?_ hx
    generalize hav : a.eval x = av at hx
    cases hx with
    | lp f hcell hrep => rw [← hav]; exact key _ _ hav
  · rename_i f cs he
    rw [he] at hx
    refine Out.quiet hm h ?_ hx
    generalize hav : a.eval x = av at hx
    cases hx with
    | fn hl hj =>
      unfold execOp
      simp [ho, hav]
  · exact h.elim

theorem out_idxA {t : TypeId} {x i : Operand} {k : IntKind} {z : Int} {cs : List PV} (ho : o.op = .index t x i) (hi : a.eval i = .int k z) (hv : ∃ vs, a.eval x = .agg vs ∧ vs.size = cs.length ∧ ∀ (j : Nat) (q : PV) (u : Value), cs[j]? = some q → vs[j]? = some u → PRep (cxOf E (hget σ.h) loc w) (hget σ.h) loc kn q u) (h : idxA P t cs z σ K) (hm : MC E (hget σ.h) loc kn w) : Out P E o σ nid loc kn w a K := by
  obtain ⟨vs, hv, hl, hj⟩ := hv
  obtain ⟨e, he, h⟩ := got_spec h
  obtain ⟨⟨h0, hlt, hle, h1⟩, h⟩ := h
  unfold arrOf at he
  split at he
  · rename_i n el hu
    obtain ⟨T, hT, rfl⟩ := Option.map_eq_some_iff.1 he
    obtain ⟨v, hr, hp⟩ := part_run (w := w) hT hl hj hle h1
    refine Out.quiet hm h (v := v) ?_ hp
    obtain ⟨i', d, z', hi', hd, hz', x1, _⟩ := TY_spec hT
    have hsz : (sizeOf el).run P w = .ok T.size w := by simp [sizeOf, typeInfo, hi', x1]
    unfold execOp
    simp only [ho, hv, hi, Instr.index, asIntOf, Sem.run_bind, Sem.run_pure, run_underlying hu, Result.andThen_ok, if_pos (And.intro h0 hlt), hsz, hr]
  · cases he
theorem out_index {t : TypeId} {x i : Operand} (ho : o.op = .index t x i) (h : vcOp P o nid σ K) (hm : MC E (hget σ.h) loc kn w) (hs : SlotsOk (cxOf E (hget σ.h) loc w) (hget σ.h) loc kn σ.t a) : Out P E o σ nid loc kn w a K := by
  unfold vcOp at h
  simp only [ho] at h
  have hx := evRep hs x
  have hi := evRep hs i
  split at h
  · rename_i s k z e1 e2
    obtain ⟨⟨hst, h0⟩, h⟩ := h
    obtain ⟨b, hb, h⟩ := got_spec h
    rw [e1] at hx
    rw [e2] at hi
    have hx := hx.val
    have hi := hi.val
    have hu : P.underlying t = some .string := by
      unfold isStr at hst
      split at hst
      · assumption
      · cases hst
    refine Out.quiet hm h ?_ (.d (.v _))
    unfold execOp
    simp [ho, hx, hi, Instr.index, asIntOf, run_underlying hu, h0, hb]
  · rename_i cs k z e1 e2
    rw [e2] at hi
    exact out_idxA ho hi.val (aggP_spec (by rw [e1]; rfl) hx) h hm
  · rename_i cs k z e1 e2
    rw [e2] at hi
    exact out_idxA ho hi.val (aggP_spec (by rw [e1]; rfl) hx) h hm
  · exact h.elim
end
end Go.Pm
