/-
  The pure machine, part 14: rules by which simp runs it.
-/
import Derived.Test.YtmhclkagdpbadaaGreatCtr8
set_option linter.unusedVariables false
set_option linter.unusedSimpArgs false
set_option linter.unusedSimpArgs false
set_option linter.unusedVariables false
namespace Go.Pm
section
variable {P : Program} {M : Md} {m n nid : Nat} {t : Slots} {h : Heap} {K : Exit → St → Prop} {k k1 k2 : St → Prop} {L : Kt}
@[go_sem] theorem vc_skip : vc P M .skip K ⟨m, t, h, n⟩ = K .normal ⟨m, t, h, n⟩ := rfl
@[go_sem] theorem vc_region {id : Nat} {ops : Array Oper} : vc P M (.region id ops false) K ⟨m, t, h, n⟩ = vcOps P M ops ops.toList 0 [] (fun τ _ => K .normal (bump τ ops.size)) ⟨m, t, h, n⟩ := rfl
@[go_sem] theorem vc_draw {id : Nat} {ops : Array Oper} : vc P M (.region id ops true) K ⟨m, t, h, n⟩ = vcOps P noM ops ops.toList 0 [] (fun τ log => Side (raceOk ops log = true) (bump τ ops.size) (K .normal)) ⟨m, t, h, n⟩ := rfl
@[go_sem] theorem vc_range {g : Operand} {ps : Array Tmp} {x y : Code} : vc P (fnM P) (.rangeFunc g ps x y) K ⟨m, t, h, n⟩ = RangeV P g ps x y K ⟨m, t, h, n⟩ := rfl
@[go_sem] theorem vc_seq {x y : Code} : vc P M (.seq x y) K ⟨m, t, h, n⟩ = vc P M x (seqK (vc P M y K) K) ⟨m, t, h, n⟩ := rfl
@[go_sem] theorem vc_cond {c : Operand} {x y : Code} : vc P M (.cond c x y) K ⟨m, t, h, n⟩ = CondS (ev t c) ⟨m, t, h, n⟩ (vc P M x K) (vc P M y K) := rfl
@[go_sem] theorem vc_block {id : Nat} {b : Code} : vc P M (.block id b) K ⟨m, t, h, n⟩ = vc P M b (blockK id K) ⟨m, t, h, n⟩ := rfl
@[go_sem] theorem vc_exit {id : Nat} : vc P M (.exit id) K ⟨m, t, h, n⟩ = K (.exit id) ⟨m, t, h, n⟩ := rfl
@[go_sem] theorem vc_scope {b : Code} : vc P M (.scope b) K ⟨m, t, h, n⟩ = vc P M b (scopeK K) ⟨m, t, h, n⟩ := rfl
@[go_sem] theorem vc_label {l : Nat} : vc P M (.label l) K ⟨m, t, h, n⟩ = K .normal ⟨m, t, h, n⟩ := rfl
@[go_sem] theorem vc_ret : vc P M .ret K ⟨m, t, h, n⟩ = K .ret ⟨m, t, h, n⟩ := rfl
@[go_sem] theorem seqK_normal : seqK k K .normal ⟨m, t, h, n⟩ = k ⟨m, t, h, n⟩ := rfl
@[go_sem] theorem seqK_exit {i : Nat} : seqK k K (.exit i) ⟨m, t, h, n⟩ = K (.exit i) ⟨m, t, h, n⟩ := rfl
@[go_sem] theorem seqK_ret : seqK k K .ret ⟨m, t, h, n⟩ = K .ret ⟨m, t, h, n⟩ := rfl
@[go_sem] theorem blockK_normal {id : Nat} : blockK id K .normal ⟨m, t, h, n⟩ = K .normal ⟨m, t, h, n⟩ := rfl
@[go_sem] theorem blockK_exit {id i : Nat} : blockK id K (.exit i) ⟨m, t, h, n⟩ = if i = id then K .normal ⟨m, t, h, n⟩ else K (.exit i) ⟨m, t, h, n⟩ := rfl
@[go_sem] theorem blockK_ret {id : Nat} : blockK id K .ret ⟨m, t, h, n⟩ = K .ret ⟨m, t, h, n⟩ := rfl
@[go_sem] theorem scopeK_normal : scopeK K .normal ⟨m, t, h, n⟩ = K .normal ⟨m, t, h, n⟩ := rfl
@[go_sem] theorem scopeK_exit {i : Nat} : scopeK K (.exit i) ⟨m, t, h, n⟩ = K (.exit i) ⟨m, t, h, n⟩ := rfl
@[go_sem] theorem scopeK_ret : scopeK K .ret ⟨m, t, h, n⟩ = K .ret ⟨m, t, h, n⟩ := rfl
@[go_sem] theorem loopK_normal {α : Type} {inv : α → St} {φ : α → Prop} {μ : α → Nat} {x : α} : loopK inv φ μ x K .normal ⟨m, t, h, n⟩ = ∃ y, φ y ∧ μ y < μ x ∧ Sub (inv y) ⟨m, t, h, n⟩ := rfl
@[go_sem] theorem loopK_exit {α : Type} {inv : α → St} {φ : α → Prop} {μ : α → Nat} {x : α} {i : Nat} : loopK inv φ μ x K (.exit i) ⟨m, t, h, n⟩ = K (.exit i) ⟨m, t, h, n⟩ := rfl
@[go_sem] theorem loopK_ret {α : Type} {inv : α → St} {φ : α → Prop} {μ : α → Nat} {x : α} : loopK inv φ μ x K .ret ⟨m, t, h, n⟩ = K .ret ⟨m, t, h, n⟩ := rfl
@[go_sem] theorem retK_ret {fn : Func} {r : R} : retK P fn r .ret ⟨m, t, h, n⟩ = RetS P fn r ⟨m, t, h, n⟩ := rfl
@[go_sem] theorem retK_normal {fn : Func} {r : R} : retK P fn r .normal ⟨m, t, h, n⟩ = RetS P fn r ⟨m, t, h, n⟩ := rfl
@[go_sem] theorem condS_bool {b : Bool} : CondS (.d (.v (.bool b))) ⟨m, t, h, n⟩ k1 k2 = IfB b ⟨m, t, h, n⟩ k1 k2 := rfl
@[go_sem] theorem ifB_true : IfB true ⟨m, t, h, n⟩ k1 k2 = k1 ⟨m, t, h, n⟩ := by simp [IfB]
@[go_sem] theorem ifB_false : IfB false ⟨m, t, h, n⟩ k1 k2 = k2 ⟨m, t, h, n⟩ := by simp [IfB]
@[go_sem] theorem side_eq {p : Prop} : Side p ⟨m, t, h, n⟩ k = (p ∧ k ⟨m, t, h, n⟩) := rfl
@[go_sem] theorem got_some {α : Type} {x : α} {q : St → α → Prop} : Got (some x) ⟨m, t, h, n⟩ q = q ⟨m, t, h, n⟩ x := rfl
@[go_sem] theorem vcOps_nil {ops : Array Oper} {i : Nat} {log : Log} {kk : St → Log → Prop} : vcOps P M ops [] i log kk ⟨m, t, h, n⟩ = kk ⟨m, t, h, n⟩ log := rfl
@[go_sem] theorem vcOps_cons {ops : Array Oper} {i : Nat} {log : Log} {kk : St → Log → Prop} {o : Oper} {os : List Oper} : vcOps P M ops (o :: os) i log kk ⟨m, t, h, n⟩ = Side (dstOk m o.dst) ⟨m, t, h, n⟩ fun σ => guardV ops o.guard σ
      (fun σ => opY P M o (σ.n + 4 * i) σ fun σ r U Rd => vcOps P M ops os (i + 1) (log ++ [(Rd, U.map (·.1))]) kk (stepS σ o.dst r U))
      (fun σ => vcOps P M ops os (i + 1) (log ++ [([], [])]) kk (stepS σ o.dst (.d (.v undef)) [])) := rfl
@[go_sem] theorem opY_noM {o : Oper} : opY P noM o nid ⟨m, t, h, n⟩ L = match yieldOf o ⟨m, t, h, n⟩ with
    | some _ => False
    | none => vcOp P o nid ⟨m, t, h, n⟩ L := by unfold opY; generalize yieldOf o _ = y; cases y <;> rfl
@[go_sem] theorem opY_fn {o : Oper} : opY P (fnM P) o nid ⟨m, t, h, n⟩ L = match yieldOf o ⟨m, t, h, n⟩ with
    | some _ => False
    | none => vcOp P o nid ⟨m, t, h, n⟩ L := by unfold opY; generalize yieldOf o _ = y; cases y <;> rfl
@[go_sem] theorem opY_it {Y : List PV → St → (St → Bool → Prop) → Prop} {o : Oper} {R : Operand → Array Tmp → Code → Code → (Exit → St → Prop) → St → Prop} : opY P ⟨Y, R⟩ o nid ⟨m, t, h, n⟩ L = match yieldOf o ⟨m, t, h, n⟩ with
    | some as => Y as ⟨m, t, h, nid⟩ fun σ' b => L σ' (boolP b) [] []
    | none => vcOp P o nid ⟨m, t, h, n⟩ L := by unfold opY; rfl
@[go_sem] theorem roundY_eq {σ0 : St} {ps : Array Tmp} {x y : Code} {as : List PV} {q : St → Bool → Prop} : roundY P σ0 ps x y as ⟨m, t, h, n⟩ q = ((as.length = ps.size ∧ allLt σ0.m ps.toList) ∧ vc P noM x (asgK (vc P noM y (rndK ⟨m, t, h, n⟩ q))) ⟨σ0.m, zipS ps.toList as σ0.t, h, n⟩) := rfl
@[go_sem] theorem asgK_normal {q : St → Prop} : asgK q .normal ⟨m, t, h, n⟩ = q ⟨m, t, h, n⟩ := rfl
@[go_sem] theorem rndK_normal {τ : St} {q : St → Bool → Prop} : rndK τ q .normal ⟨m, t, h, n⟩ = q ⟨τ.m, τ.t, h, n⟩ true := rfl
@[go_sem] theorem itK_normal {τ : St} : itK τ K .normal ⟨m, t, h, n⟩ = (noYH h ∧ K .normal ⟨τ.m, τ.t, h, n⟩) := rfl
@[go_sem] theorem itK_ret {τ : St} : itK τ K .ret ⟨m, t, h, n⟩ = (noYH h ∧ K .normal ⟨τ.m, τ.t, h, n⟩) := rfl
@[go_sem] theorem retHK_ret {fn : Func} {ids : List Nat} {nid' : Nat} {l : List Nat} {r : PV} {h' : Heap} : retHK P fn ids nid' l r h' .ret ⟨m, t, h, n⟩ = RetH P fn ids nid' l r h' ⟨m, t, h, n⟩ := rfl
@[go_sem] theorem retHK_normal {fn : Func} {ids : List Nat} {nid' : Nat} {l : List Nat} {r : PV} {h' : Heap} : retHK P fn ids nid' l r h' .normal ⟨m, t, h, n⟩ = RetH P fn ids nid' l r h' ⟨m, t, h, n⟩ := rfl
@[go_sem] theorem dstOk_some {d : Nat} : dstOk m (some d) = (d < m) := rfl
@[go_sem] theorem dstOk_none : dstOk m none = True := rfl
@[go_sem] theorem guardV_none {ops : Array Oper} : guardV ops none ⟨m, t, h, n⟩ k1 k2 = k1 ⟨m, t, h, n⟩ := rfl
@[go_sem] theorem guardV_some {ops : Array Oper} {j : Nat} {want : Bool} : guardV ops (some (j, want)) ⟨m, t, h, n⟩ k1 k2 = match (ops[j]?).bind (·.dst) with
    | some d => match get t d with
      | .d (.v (.bool c)) => IfB (c == want) ⟨m, t, h, n⟩ k1 k2
      | .d (.v (.tuple _)) => k2 ⟨m, t, h, n⟩
      | _ => False
    | none => False := rfl
@[go_sem] theorem stepS_some {d : Nat} {r : PV} {U : Heap} : stepS ⟨m, t, h, n⟩ (some d) r U = ⟨m, (d, r) :: t, U ++ h, n⟩ := rfl
@[go_sem] theorem stepS_none {r : PV} {U : Heap} : stepS ⟨m, t, h, n⟩ none r U = ⟨m, t, U ++ h, n⟩ := rfl
@[go_sem] theorem bump_eq {i : Nat} : bump ⟨m, t, h, n⟩ i = ⟨m, t, h, n + 4 * i⟩ := rfl
attribute [go_sem] get hget ev zPV zD cellsP D.one PV.one allOne mk splice fillP tabIf dz dzs d0 d0s d1 fz fzs f0 f0s f1 frz dcells a1 a1s a2 a2s g1 g1s g2 g2s r1 r1s r2 r2s adopt adopt1 adoptL R.list intP boolP arith slcT trunc convV els lenOf fa R1.plain R.plain bound loadV storeV idxV appV callV RetS retPV retPVs retIs retsIs ownId ownIds frIds apart argSlots zipS allLt noYd noYs noYT noYH yieldOf RangeV hasH litT copyV maxL maxL.maxG CallB CallP CallH RetH retOf outs clH gam ren rens renOb refsIn refsIns subT subH slotsLt heapLt refsLt refsLts Sub ghost ghosts
section
variable {e : TypeId} {k : IntKind} {a b : Int} {p q : Bool} {qq : St → PV → Prop}
/-- operations on bits -/
def bAnd (k : IntKind) (a b : Int) : Int := k.wrap (BitVec.ofInt k.bits a &&& BitVec.ofInt k.bits b).toNat
def bOr (k : IntKind) (a b : Int) : Int := k.wrap (BitVec.ofInt k.bits a ||| BitVec.ofInt k.bits b).toNat
def bXor (k : IntKind) (a b : Int) : Int := k.wrap (BitVec.ofInt k.bits a ^^^ BitVec.ofInt k.bits b).toNat
def bNot (k : IntKind) (a : Int) : Int := k.wrap (BitVec.ofInt k.bits (if k.signed then -1 else k.max) ^^^ BitVec.ofInt k.bits a).toNat
@[go_sem] theorem bin_add : binV P .add e (.d (.v (.int k a))) (.d (.v (.int k b))) ⟨m, t, h, n⟩ qq = arith k (a + b) ⟨m, t, h, n⟩ qq := by simp [binV, Side]
@[go_sem] theorem bin_sub : binV P .sub e (.d (.v (.int k a))) (.d (.v (.int k b))) ⟨m, t, h, n⟩ qq = arith k (a - b) ⟨m, t, h, n⟩ qq := by simp [binV, Side]
@[go_sem] theorem bin_mul : binV P .mul e (.d (.v (.int k a))) (.d (.v (.int k b))) ⟨m, t, h, n⟩ qq = arith k (a * b) ⟨m, t, h, n⟩ qq := by simp [binV, Side]
@[go_sem] theorem bin_quo : binV P .quo e (.d (.v (.int k a))) (.d (.v (.int k b))) ⟨m, t, h, n⟩ qq = (b ≠ 0 ∧ arith k (a.tdiv b) ⟨m, t, h, n⟩ qq) := by simp [binV, Side]
@[go_sem] theorem bin_rem : binV P .rem e (.d (.v (.int k a))) (.d (.v (.int k b))) ⟨m, t, h, n⟩ qq = (b ≠ 0 ∧ qq ⟨m, t, h, n⟩ (intP k (a.tmod b))) := by simp [binV, Side]
@[go_sem] theorem bin_and : binV P .and e (.d (.v (.int k a))) (.d (.v (.int k b))) ⟨m, t, h, n⟩ qq = qq ⟨m, t, h, n⟩ (intP k (bAnd k a b)) := by simp [binV, Side, bAnd]
@[go_sem] theorem bin_or : binV P .or e (.d (.v (.int k a))) (.d (.v (.int k b))) ⟨m, t, h, n⟩ qq = qq ⟨m, t, h, n⟩ (intP k (bOr k a b)) := by simp [binV, Side, bOr]
@[go_sem] theorem bin_xor : binV P .xor e (.d (.v (.int k a))) (.d (.v (.int k b))) ⟨m, t, h, n⟩ qq = qq ⟨m, t, h, n⟩ (intP k (bXor k a b)) := by simp [binV, Side, bXor]
@[go_sem] theorem bin_shl {k' : IntKind} : binV P .shl e (.d (.v (.int k a))) (.d (.v (.int k' b))) ⟨m, t, h, n⟩ qq = (0 ≤ b ∧ qq ⟨m, t, h, n⟩ (intP k (k.wrap (a * 2 ^ min b.toNat k.bits)))) := by simp [binV, Side]
@[go_sem] theorem bin_shr {k' : IntKind} : binV P .shr e (.d (.v (.int k a))) (.d (.v (.int k' b))) ⟨m, t, h, n⟩ qq = (0 ≤ b ∧ qq ⟨m, t, h, n⟩ (intP k (a.fdiv (2 ^ min b.toNat k.bits)))) := by simp [binV, Side]
@[go_sem] theorem bin_eql : binV P .eql e (.d (.v (.int k a))) (.d (.v (.int k b))) ⟨m, t, h, n⟩ qq = qq ⟨m, t, h, n⟩ (boolP (decide (a = b))) := by simp [binV, Side]
@[go_sem] theorem bin_neq : binV P .neq e (.d (.v (.int k a))) (.d (.v (.int k b))) ⟨m, t, h, n⟩ qq = qq ⟨m, t, h, n⟩ (boolP (decide (a ≠ b))) := by simp [binV, Side]
@[go_sem] theorem bin_lss : binV P .lss e (.d (.v (.int k a))) (.d (.v (.int k b))) ⟨m, t, h, n⟩ qq = qq ⟨m, t, h, n⟩ (boolP (decide (a < b))) := by simp [binV, Side]
@[go_sem] theorem bin_leq : binV P .leq e (.d (.v (.int k a))) (.d (.v (.int k b))) ⟨m, t, h, n⟩ qq = qq ⟨m, t, h, n⟩ (boolP (decide (a ≤ b))) := by simp [binV, Side]
@[go_sem] theorem bin_gtr : binV P .gtr e (.d (.v (.int k a))) (.d (.v (.int k b))) ⟨m, t, h, n⟩ qq = qq ⟨m, t, h, n⟩ (boolP (decide (b < a))) := by simp [binV, Side]
@[go_sem] theorem bin_geq : binV P .geq e (.d (.v (.int k a))) (.d (.v (.int k b))) ⟨m, t, h, n⟩ qq = qq ⟨m, t, h, n⟩ (boolP (decide (b ≤ a))) := by simp [binV, Side]
@[go_sem] theorem bin_beq : binV P .eql e (.d (.v (.bool p))) (.d (.v (.bool q))) ⟨m, t, h, n⟩ qq = (isBool P e = true ∧ qq ⟨m, t, h, n⟩ (boolP (p == q))) := by simp [binV, Side]
@[go_sem] theorem bin_bne : binV P .neq e (.d (.v (.bool p))) (.d (.v (.bool q))) ⟨m, t, h, n⟩ qq = (isBool P e = true ∧ qq ⟨m, t, h, n⟩ (boolP (p != q))) := by simp [binV, Side]
@[go_sem] theorem bin_nil {x : List D} {xs : List (List D)} : binV P .eql e (.d (.sl (x :: xs))) .nl ⟨m, t, h, n⟩ qq = (slcT P e = true ∧ qq ⟨m, t, h, n⟩ (boolP false)) := by simp [binV, Side]
@[go_sem] theorem bin_nnil {x : List D} {xs : List (List D)} : binV P .neq e (.d (.sl (x :: xs))) .nl ⟨m, t, h, n⟩ qq = (slcT P e = true ∧ qq ⟨m, t, h, n⟩ (boolP true)) := by simp [binV, Side]
@[go_sem] theorem un_not : unV .not (.d (.v (.bool p))) ⟨m, t, h, n⟩ qq = qq ⟨m, t, h, n⟩ (boolP (!p)) := by simp [unV]
@[go_sem] theorem un_neg : unV .neg (.d (.v (.int k a))) ⟨m, t, h, n⟩ qq = arith k (0 - a) ⟨m, t, h, n⟩ qq := by simp [unV]
@[go_sem] theorem un_xor : unV .xor (.d (.v (.int k a))) ⟨m, t, h, n⟩ qq = qq ⟨m, t, h, n⟩ (intP k (bNot k a)) := by simp [unV, bNot]
end
section
variable {d : Option Tmp} {ty : TypeId} {pos : String} {af : Array Edge} {g : Option (Nat × Bool)}
@[go_sem] theorem op_move {x : Operand} : vcOp P ⟨d, .move x, ty, pos, af, g⟩ nid ⟨m, t, h, n⟩ L = L ⟨m, t, h, n⟩ (ev t x) [] [] := rfl
@[go_sem] theorem op_assign {x : Operand} : vcOp P ⟨d, .assign x, ty, pos, af, g⟩ nid ⟨m, t, h, n⟩ L = L ⟨m, t, h, n⟩ (ev t x) [] [] := rfl
@[go_sem] theorem op_pick {c x y : Operand} : vcOp P ⟨d, .pick c x y, ty, pos, af, g⟩ nid ⟨m, t, h, n⟩ L = match ev t c with
    | .d (.v (.bool c)) => IfB c ⟨m, t, h, n⟩ (fun σ => L σ (ev σ.t x) [] []) (fun σ => L σ (ev σ.t y) [] [])
    | _ => False := rfl
@[go_sem] theorem op_extract {x : Operand} {i : Nat} : vcOp P ⟨d, .extract x i, ty, pos, af, g⟩ nid ⟨m, t, h, n⟩ L = match ev t x with
    | .tup vs => Side (i < vs.length) ⟨m, t, h, n⟩ fun σ => L σ (vs.getD i .any) [] []
    | _ => False := rfl
@[go_sem] theorem op_alloc {e : TypeId} : vcOp P ⟨d, .alloc e, ty, pos, af, g⟩ nid ⟨m, t, h, n⟩ L = Got (TY P e) ⟨m, t, h, n⟩ fun σ T => Side (allOne (T.zero.map zPV)) σ fun σ => L σ (.pr nid 0 0 0) [(nid, .box (T.zero.map zPV))] [] := rfl
@[go_sem] theorem op_box {e : TypeId} {x : Operand} : vcOp P ⟨d, .box e x, ty, pos, af, g⟩ nid ⟨m, t, h, n⟩ L = Side (allOne (cellsP (ev t x))) ⟨m, t, h, n⟩ fun σ => L σ (.pr nid 0 0 0) [(nid, .box (cellsP (ev σ.t x)))] [] := rfl
@[go_sem] theorem op_build {e : TypeId} {parts : Array (Nat × Operand)} : vcOp P ⟨d, .build e parts, ty, pos, af, g⟩ nid ⟨m, t, h, n⟩ L = Got (TY P e) ⟨m, t, h, n⟩ fun σ T => Side (T.agg = true ∧ allOne ((parts.toList.map fun p => ev σ.t p.2).flatMap cellsP)) σ fun σ => Got (plcs P T) σ fun σ pl => Got (fillP pl (parts.toList.map fun p => (p.1, ev σ.t p.2)) (T.zero.map zPV)) σ fun σ cs => L σ (.agg cs) [] [] := rfl
@[go_sem] theorem op_buildSlice {e : TypeId} {len : Nat} {parts : Array (Nat × Operand)} : vcOp P ⟨d, .buildSlice e len parts, ty, pos, af, g⟩ nid ⟨m, t, h, n⟩ L = Got (TY P e) ⟨m, t, h, n⟩ fun σ T => Got (TY P T.elem) σ fun σ E => if litT E = true ∧ 0 < len then
        Side (T.slc = true ∧ parts.toList.map (·.1) = List.range len ∧ E.size = 1 ∧ E.zero.length = 1 ∧ len ≤ 16777216 ∧ ∀ p ∈ parts.toList, (cellsP (ev σ.t p.2)) = [ev σ.t p.2] ∧ (ev σ.t p.2).one) σ fun σ => L σ (.lt (parts.toList.map fun p => ev σ.t p.2)) [] []
      else Got (d0s (hget σ.h) ((parts.toList.map fun p => ev σ.t p.2).flatMap cellsP)) σ fun σ _ =>
      Side (T.slc = true ∧ parts.toList.map (·.1) = List.range len ∧ 0 < E.size ∧ E.zero.length = E.size ∧ (∀ p ∈ parts.toList, (cellsP (ev σ.t p.2)).length = E.size) ∧ len * E.size ≤ 16777216 ∧ allOne ((parts.toList.map fun p => ev σ.t p.2).flatMap cellsP)) σ fun σ =>
        L σ (.sr nid 0) ((nid, .arr ⟨T.elem, E.size, 0, false, (parts.toList.map fun p => ((d0s (hget σ.h) (cellsP (ev σ.t p.2))).getD []))⟩) :: frz (hget σ.h) (f0s ((parts.toList.map fun p => ev σ.t p.2).flatMap cellsP)))
          (f0s ((parts.toList.map fun p => ev σ.t p.2).flatMap cellsP)) := rfl
@[go_sem] theorem op_load {e : TypeId} {x : Operand} : vcOp P ⟨d, .load e x, ty, pos, af, g⟩ nid ⟨m, t, h, n⟩ L = Got (TY P e) ⟨m, t, h, n⟩ fun σ T => loadV T (ev σ.t x) σ L := rfl
@[go_sem] theorem op_store {e : TypeId} {x y : Operand} : vcOp P ⟨d, .store e x y, ty, pos, af, g⟩ nid ⟨m, t, h, n⟩ L = Got (TY P e) ⟨m, t, h, n⟩ fun σ T => storeV T (ev σ.t x) (ev σ.t y) σ L := rfl
@[go_sem] theorem op_bin {op : BinOp} {e e' : TypeId} {x y : Operand} : vcOp P ⟨d, .binOp op e x y e', ty, pos, af, g⟩ nid ⟨m, t, h, n⟩ L = binV P op e (ev t x) (ev t y) ⟨m, t, h, n⟩ fun σ v => L σ v [] [] := rfl
@[go_sem] theorem op_un {op : UnOp} {e : TypeId} {x : Operand} : vcOp P ⟨d, .unOp op e x, ty, pos, af, g⟩ nid ⟨m, t, h, n⟩ L = unV op (ev t x) ⟨m, t, h, n⟩ fun σ v => L σ v [] [] := rfl
@[go_sem] theorem op_nilCheck {x : Operand} : vcOp P ⟨d, .nilCheck x, ty, pos, af, g⟩ nid ⟨m, t, h, n⟩ L = match ev t x with
    | .pr id ver i off => Got (hget h id) ⟨m, t, h, n⟩ fun σ ob => match ob with
      | .box _ => L σ (.pr id ver i off) [] [id]
      | _ => False
    | .bw cs => L ⟨m, t, h, n⟩ (.bw cs) [] []
    | .lp cs => L ⟨m, t, h, n⟩ (.lp cs) [] []
    | .fn f cs => L ⟨m, t, h, n⟩ (.fn f cs) [] []
    | _ => False := rfl
@[go_sem] theorem op_index {e : TypeId} {x i : Operand} : vcOp P ⟨d, .index e x i, ty, pos, af, g⟩ nid ⟨m, t, h, n⟩ L = match ev t x, ev t i with
    | .d (.v (.string s)), .d (.v (.int _ z)) => Side (isStr P e = true ∧ 0 ≤ z) ⟨m, t, h, n⟩ fun σ => Got (s[z.toNat]?) σ fun σ b => L σ (intP .u8 b.toNat) [] []
    | .agg cs, .d (.v (.int _ z)) => idxA P e cs z ⟨m, t, h, n⟩ L
    | .d (.agg cs), .d (.v (.int _ z)) => idxA P e (cs.map .d) z ⟨m, t, h, n⟩ L
    | _, _ => False := rfl
@[go_sem] theorem op_field {e : TypeId} {x : Operand} {f : Nat} : vcOp P ⟨d, .field e x f, ty, pos, af, g⟩ nid ⟨m, t, h, n⟩ L = Got (aggP (ev t x)) ⟨m, t, h, n⟩ fun σ cs => Got (fldOf P e f) σ fun σ e => Side (e.1 + e.2.size ≤ cs.length ∧ (e.2.agg = false → e.2.size = 1)) σ fun σ => L σ (mk e.2.agg ((cs.drop e.1).take e.2.size)) [] [] := rfl
@[go_sem] theorem idxA_eq {e : TypeId} {cs : List PV} {z : Int} {σ : St} : idxA P e cs z σ L = Got (arrOf P e) σ fun σ e => Side (0 ≤ z ∧ z < e.1 ∧ z.toNat * e.2.size + e.2.size ≤ cs.length ∧ (e.2.agg = false → e.2.size = 1)) σ fun σ => L σ (mk e.2.agg ((cs.drop (z.toNat * e.2.size)).take e.2.size)) [] [] := rfl
@[go_sem] theorem plcs_str {a b c z e f g} : plcs P ⟨a, b, c, z, e, f, false, g⟩ = some f := rfl
@[go_sem] theorem aggP_agg {cs : List PV} : aggP (.agg cs) = some cs := rfl
@[go_sem] theorem aggP_d {cs : List D} : aggP (.d (.agg cs)) = some (cs.map .d) := rfl
@[go_sem] theorem op_conv {e e' : TypeId} {x : Operand} : vcOp P ⟨d, .convert e e' x, ty, pos, af, g⟩ nid ⟨m, t, h, n⟩ L = convV P e e' (ev t x) ⟨m, t, h, n⟩ fun σ v => L σ v [] [] := rfl
@[go_sem] theorem op_makeFunc {f : FuncId} {first caps : Array Operand} : vcOp P ⟨d, .makeFunc (.func f) first caps, ty, pos, af, g⟩ nid ⟨m, t, h, n⟩ L = Side (first.size = 0) ⟨m, t, h, n⟩ fun σ => L σ (.fn f (caps.toList.map (ev σ.t))) [] [] := rfl
@[go_sem] theorem op_makeSlice {e : TypeId} {l c : Operand} : vcOp P ⟨d, .makeSlice e l c, ty, pos, af, g⟩ nid ⟨m, t, h, n⟩ L = match ev t l, ev t c with
    | .d (.v (.int _ n')), .d (.v (.int _ m')) => Got (TY P e) ⟨m, t, h, n⟩ fun σ T => Got (TY P T.elem) σ fun σ E =>
        Side (T.slc = true ∧ 0 < E.size ∧ E.zero.length = E.size ∧ 0 ≤ n' ∧ n' ≤ m' ∧ m' ≤ 9223372036854775807 ∧ (E.bytes : Int) * m' ≤ 140737488355328 ∧ allOne (E.zero.map zPV)) σ fun σ => L σ (.sr nid 0) [(nid, .arr ⟨T.elem, E.size, 0, false, List.replicate n'.toNat (E.zero.map zD)⟩)] []
    | _, _ => False := rfl
@[go_sem] theorem op_fieldAddr {e : TypeId} {x : Operand} {f : Nat} : vcOp P ⟨d, .fieldAddr e x f, ty, pos, af, g⟩ nid ⟨m, t, h, n⟩ L = Got (TY P e) ⟨m, t, h, n⟩ fun σ T => Got (T.flds[f]?) σ fun σ fo => match ev σ.t x with
    | .pr id ver i off => Got (hget σ.h id) σ fun σ ob => match ob with
      | .box _ => Side (0 < fo.2) σ fun σ => L σ (.pr id ver i (off + fo.1)) [] [id]
      | .arr a => Side (0 < fo.2 ∧ a.ver = ver ∧ i < a.es.length) σ fun σ => L σ (.pr id ver i (off + fo.1)) [] [id]
      | _ => False
    | .pw id r i off => Got (hget σ.h id) σ fun σ ob => match ob with
      | .tab t => RowAt t r σ fun σ es => Side (0 < fo.2 ∧ i < es.length) σ fun σ => L σ (.pw id r i (off + fo.1)) [] [id]
      | _ => False
    | .bw cs => Side (0 < fo.2) σ fun σ => L σ (.bw (cs.drop fo.1)) [] []
    | _ => False := rfl
@[go_sem] theorem op_indexAddr {e : TypeId} {x ix : Operand} : vcOp P ⟨d, .indexAddr e x ix, ty, pos, af, g⟩ nid ⟨m, t, h, n⟩ L = Got (TY P e) ⟨m, t, h, n⟩ fun σ T => idxV P T (ev σ.t x) (ev σ.t ix) σ L := rfl
@[go_sem] theorem op_slice {e : TypeId} {x : Operand} {lo hi mx : Option Operand} : vcOp P ⟨d, .slice e x lo hi mx, ty, pos, af, g⟩ nid ⟨m, t, h, n⟩ L = Got (TY P e) ⟨m, t, h, n⟩ fun σ T => Got (lenOf (hget σ.h) (ev σ.t x)) σ fun σ n => Got (bound 0 (lo.map (ev σ.t))) σ fun σ l => Got (bound n (hi.map (ev σ.t))) σ fun σ h => Got (bound h (mx.map (ev σ.t))) σ fun σ m => Got (TY P T.elem) σ fun σ E =>
      Side (T.slc = true ∧ 0 ≤ l ∧ l ≤ h ∧ h ≤ m ∧ m ≤ n ∧ (mx.isSome = true → hi.isSome = true)) σ fun σ => match trunc (hget σ.h) lo.isSome mx.isSome (ev σ.t x) with
      | some (id, ver, a) => L σ (.sr id (ver + 1)) [(id, .arr { a with es := a.es.take h.toNat, ver := ver + 1 })] [id]
      | none => match ev σ.t x with
      | .st id ver => Side (E.size = 1) σ fun σ => L σ (.tv id ver l.toNat (h.toNat - l.toNat)) [] [id]
      | p => Got (els (hget σ.h) p) σ fun σ es => Side (∀ e ∈ es, e.length = E.size) σ fun σ => L σ (.d (.sl ((es.drop l.toNat).take (h.toNat - l.toNat)))) (frz (hget σ.h) (f0 p)) (f0 p) := rfl
@[go_sem] theorem op_call {c : Call} : vcOp P ⟨d, .call c, ty, pos, af, g⟩ nid ⟨m, t, h, n⟩ L = callV P c nid ⟨m, t, h, n⟩ L := rfl
end
end
end Go.Pm
