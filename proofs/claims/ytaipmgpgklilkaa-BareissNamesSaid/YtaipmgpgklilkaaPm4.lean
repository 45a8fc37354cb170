/-
  The pure machine, part 5: an operation does in the world what vcOp says (the quiet ones, loads, stores).
-/
import Derived.Test.YtaipmgpgklilkaaPm3
import Derived.OrdersIn
import Derived.TacticsIn
set_option linter.unusedSimpArgs false
set_option linter.unusedVariables false
namespace Go.Pm
open Go.RowKit

/-- the frames of which the machine speaks: of a function, or of a round of a range over a function -/
abbrev FW (ro : Option Nat) : Fence := { Fence.wide with round := ro }
theorem calls_FW {ro : Option Nat} {n : Nat} {P : Program} {f : FuncId} {args : Array Value} {w : World} {R : Ending → World → Prop} (h : Calls P f args w R) : CallsIn (FW ro) n P f args w R := (callsIn_wide (n := n)).2 h

theorem TY_spec {P : Program} {t : TypeId} {T : Ty} (h : TY P t = some T) : ∃ i d z, P.info? t = some i ∧ P.underlying t = some d ∧ i.zero = some z ∧ T.size = i.size ∧ T.bytes = i.bytes ∧ T.zero = z.cells.toList ∧
    T.agg = (match d with | .struct _ | .array _ _ => true | _ => false) ∧ (T.slc = true → d = .slice T.elem) ∧ fldsOf P d = some T.flds ∧ T.arr = (match d with | .array _ _ => true | _ => false) := by
  unfold TY at h
  split at h
  · rename_i i d hi hd
    split at h
    · rename_i z fl hz hf
      simp only [Option.some.injEq] at h
      subst h
      refine ⟨i, d, z, by assumption, by assumption, hz, rfl, rfl, rfl, rfl, fun hs => ?_, hf, rfl⟩
      cases d <;> simp at hs
      rfl
    · cases h
  · cases h

section
variable {P : Program} {E : Env} {loc : Locs} {kn : Nat → Prop} {w : World} {a : Act} {σ : St} {nid : Nat} {K : Kt}

abbrev SlotsOk (C : Cx) (hg : Nat → Option Ob) (loc : Locs) (kn : Nat → Prop) (t : Slots) (a : Act) : Prop := ∀ u, PRep C hg loc kn (get t u) (a.tmps.getD u undef)

theorem zPVRep {C : Cx} {hg : Nat → Option Ob} (v : Value) : PRep C hg loc kn (zPV v) v := by
  unfold zPV
  split
  · exact .nl
  · exact .d (.v _)
theorem zDRep {C : Cx} (v : Value) : Rep C (zD v) v := by
  unfold zD
  split
  · exact .nil
  · exact .v _
theorem evRep {C : Cx} {hg : Nat → Option Ob} {t : Slots} (h : SlotsOk C hg loc kn t a) (x : Operand) : PRep C hg loc kn (ev t x) (a.eval x) := by
  cases x with
  | tmp u => exact h u
  | const v => exact zPVRep v
  | global g => exact .any _
  | func f => exact .fn rfl (fun j p v h => by simp at h)

/-- how an operation ends that calls no function of Go -/
def Out (P : Program) (E : Env) (o : Oper) (σ : St) (nid : Nat) (loc : Locs) (kn : Nat → Prop) (w : World) (a : Act) (K : Kt) : Prop :=
  ∃ r U Rd v loc' kn' w', K σ r U Rd ∧ ((execOp a.eval o).run P w = .ok (.value v) w' ∨ ((execOp a.eval o).run P w = .ok .skip w' ∧ v = undef)) ∧
    Tr E (hget σ.h) loc kn w (upd U (hget σ.h)) loc' kn' w' ∧ PRep (cxOf E (upd U (hget σ.h)) loc' w') (upd U (hget σ.h)) loc' kn' r v ∧ ∀ id, kn' id → kn id ∨ (nid ≤ id ∧ id < nid + 4)

theorem upd_nil (g : Nat → Option Ob) : upd [] g = g := rfl
theorem upd_cons (x : Nat × Ob) (U : Heap) (g : Nat → Option Ob) : upd (x :: U) g = upd [x] (upd U g) := by
  funext t
  obtain ⟨u, p⟩ := x
  simp only [upd]

theorem Out.quiet {o : Oper} (hm : MC E (hget σ.h) loc kn w) {r : PV} {Rd : List Nat} {v : Value} (hK : K σ r [] Rd) (hrun : (execOp a.eval o).run P w = .ok (.value v) w) (hr : PRep (cxOf E (hget σ.h) loc w) (hget σ.h) loc kn r v) :
    Out P E o σ nid loc kn w a K := ⟨r, [], Rd, v, loc, kn, w, hK, .inl hrun, Tr.refl hm, hr, fun _ h => .inl h⟩

/-- the integer that stands in a slot -/
theorem PRep.int {C : Cx} {hg : Nat → Option Ob} {k : IntKind} {z : Int} {v : Value} (h : PRep C hg loc kn (.d (.v (.int k z))) v) : v = .int k z := by
  cases h with
  | d h => cases h; rfl
theorem PRep.val {C : Cx} {hg : Nat → Option Ob} {x v : Value} (h : PRep C hg loc kn (.d (.v x)) v) : v = x := by
  cases h with
  | d h => cases h; rfl

section
variable {hg : Nat → Option Ob} {C : Cx}
theorem arith_run {k : IntKind} {z : Int} {L : St → PV → Prop} (h : arith k z σ L) : L σ (intP k (k.wrap z)) := by
  unfold arith at h
  split at h
  · obtain ⟨⟨h1, h2⟩, h3⟩ := h
    have : IntKind.i64.wrap z = z := by rw [IntKind.wrap_i64]; omega
    rw [this]; exact h3
  · exact h

theorem run_equal_bool {t : TypeId} (h : P.underlying t = some .bool) (x y : Bool) (d : Nat) : (Op.equalIn (d + 1) t (.bool x) (.bool y)).run P w = .ok (x == y) w := by
  simp [Op.equalIn, run_underlying h]

theorem slcT_spec {t : TypeId} (h : slcT P t = true) : ∃ e, P.underlying t = some (.slice e) := by
  unfold slcT at h
  split at h
  · rename_i T hT
    obtain ⟨_, d, _, _, h2, _, _, _, _, _, h8, _⟩ := TY_spec hT
    exact ⟨_, by rw [h2, h8 h]⟩
  · cases h
theorem run_equal_nil {t e : TypeId} (h : P.underlying t = some (.slice e)) (ad : Addr) (n c d : Nat) : (Op.equalIn (d + 1) t (.slice (some ad) n c) (.slice none 0 0)).run P w = .ok false w := by
  simp [Op.equalIn, run_underlying h]
theorem binV_run {op : BinOp} {t : TypeId} {x y : PV} {u v : Value} {L : St → PV → Prop} (h : binV P op t x y σ L) (hx : PRep C hg loc kn x u) (hy : PRep C hg loc kn y v) :
    ∃ z, L σ (.d (.v z)) ∧ (binOp op t u v).run P w = .ok z w ∧ ∀ (o1 o2 : Operand), (eqGuard op t o1 o2 u v).run P w = .ok () w := by
  unfold binV at h
  split at h
  all_goals first | exact h.elim | skip
  case h_19 | h_20 =>
    obtain ⟨hk, h⟩ := h
    cases hy
    obtain ⟨e, he⟩ := slcT_spec hk
    cases hx with
    | d hx =>
      cases hx with
      | sl es k c b o f hc hm hk2 hcell hrep =>
        have hq := fun ad n c => run_equal_nil (w := w) he ad n c 9999
        exact ⟨_, h, by simp only [binOp, Op.equal, Sem.run_bind]; rw [show Op.maxDepth = 9999 + 1 from rfl, hq]; simp, fun o1 o2 => by simp [eqGuard]⟩
  all_goals
    have e1 := hx.val
    have e2 := hy.val
    subst e1 e2
  all_goals obtain ⟨hk, h⟩ := h
  case h_1 | h_2 | h_3 =>
    subst hk
    exact ⟨_, arith_run h, by simp [binOp, Op.intArith], fun o1 o2 => by simp [eqGuard]⟩
  case h_4 =>
    obtain ⟨rfl, hb⟩ := hk
    exact ⟨_, arith_run h, by simp [binOp, Op.intDiv, hb], fun o1 o2 => by simp [eqGuard]⟩
  case h_5 =>
    obtain ⟨rfl, hb⟩ := hk
    exact ⟨_, h, by simp [binOp, Op.intDiv, hb], fun o1 o2 => by simp [eqGuard]⟩
  case h_6 | h_7 | h_8 =>
    subst hk
    exact ⟨_, h, by simp [binOp, Op.intBits], fun o1 o2 => by simp [eqGuard]⟩
  case h_9 | h_10 =>
    exact ⟨_, h, by simp [binOp, Op.shift, show ¬ _ < (0 : Int) from Int.not_lt.2 hk], fun o1 o2 => by simp [eqGuard]⟩
  case h_11 | h_13 | h_14 | h_15 | h_16 =>
    subst hk
    exact ⟨_, h, by simp [binOp, Op.intCmp, BEq.beq], fun o1 o2 => by simp [eqGuard]⟩
  case h_12 =>
    subst hk
    exact ⟨_, h, by simp [binOp, Op.intCmp, bne, BEq.beq], fun o1 o2 => by simp [eqGuard]⟩
  case h_17 | h_18 =>
    have hu : P.underlying t = some .bool := by
      unfold isBool at hk
      split at hk
      · assumption
      · cases hk
    have hq := fun x y => run_equal_bool (w := w) hu x y 9999
    exact ⟨_, h, by simp only [binOp, Op.equal, Sem.run_bind]; rw [show Op.maxDepth = 9999 + 1 from rfl, hq]; simp [bne], fun o1 o2 => by simp [eqGuard]⟩

theorem unV_run {op : UnOp} {x : PV} {u : Value} {L : St → PV → Prop} (h : unV op x σ L) (hx : PRep C hg loc kn x u) : ∃ z, L σ (.d (.v z)) ∧ (Op.unary op u).run P w = .ok z w := by
  unfold unV at h
  split at h
  · obtain rfl := hx.val; exact ⟨_, h, by simp [Op.unary]⟩
  · obtain rfl := hx.val; exact ⟨_, arith_run h, by simp [Op.unary, Op.intArith]⟩
  · obtain rfl := hx.val; exact ⟨_, h, by simp [Op.unary, Op.intBits]⟩
  · exact h.elim

theorem kindOf_spec {t : TypeId} {k : IntKind} (h : kindOf P t = some k) : P.underlying t = some (.int k) := by
  unfold kindOf at h
  split at h
  · rename_i k' e; cases h; exact e
  · cases h
theorem got_spec {α : Type} {x : Option α} {L : St → α → Prop} (h : Got x σ L) : ∃ y, x = some y ∧ L σ y := by
  unfold Got at h
  cases x with
  | none => exact h.elim
  | some y => exact ⟨y, rfl, h⟩
theorem convV_run {src dst : TypeId} {x : PV} {u : Value} {L : St → PV → Prop} (h : convV P src dst x σ L) (hx : PRep C hg loc kn x u) : ∃ z, L σ (.d (.v z)) ∧ (convert src dst u).run P w = .ok z w := by
  unfold convV at h
  split at h
  · obtain rfl := hx.val
    obtain ⟨k', h1, h⟩ := got_spec h
    obtain ⟨k, h2, h⟩ := got_spec h
    exact ⟨_, h, by simp [convert, run_underlying (kindOf_spec h1), run_underlying (kindOf_spec h2), Conv.intToInt]⟩
  · exact h.elim
end
end
end Go.Pm
