/-
  The pure machine, run: closed calls, by the kernel.
-/
import Derived.Test.YtpoocfmphcgmkaaGreatBre7
set_option linter.unusedVariables false
set_option linter.unusedSimpArgs false
set_option linter.unusedSimpArgs false
set_option linter.unusedVariables false
namespace Go.Pm
open Go.RowKit
structure Tb where
  ty : List (Option Ty)
  kind : List (Option IntKind)
  isB : List Bool
  isS : List Bool
  hs : List Nat
  gh : List (Nat × Nat × Nat × Nat × Nat × Nat)
def Tb.t (W : Tb) (t : TypeId) : Option Ty := (W.ty[t]?).getD none
def Tb.k (W : Tb) (t : TypeId) : Option IntKind := (W.kind[t]?).getD none

section
variable {α : Type}
end
def q3 (x : Option (PV × List Nat)) : Option (PV × Heap × List Nat) := match x with
  | some (p, r) => some (p, [], r)
  | none => none
abbrev CPt := FuncId → List PV → Option R
abbrev CHt := FuncId → List PV → Heap → Nat → Option (PV × Heap)

def cmpT (seen : Nat) : Slots → Slots
  | [] => []
  | (u, p) :: l => if seen.testBit u then cmpT seen l else (u, p) :: cmpT (seen ||| 2 ^ u) l
def cmpH (seen : Nat) : Heap → Heap
  | [] => []
  | (u, p) :: l => if seen.testBit u then cmpH seen l else (u, p) :: cmpH (seen ||| 2 ^ u) l
def cmpS (σ : St) : St := ⟨σ.m, cmpT 0 σ.t, cmpH 0 σ.h, σ.n⟩
end Go.Pm
/-
  The pure machine, run: what the run says is so.
-/
set_option linter.unusedSimpArgs false
set_option linter.unusedVariables false
namespace Go.Pm
open Go.RowKit

section
variable {P : Program} {σ : St} {K : Kt}
end

/-- the tables are right -/
structure TbOk (P : Program) (W : Tb) : Prop where
  ty : ∀ t T, W.t t = some T → TY P t = some T
  kind : ∀ t k, W.k t = some k → kindOf P t = some k
  isB : ∀ t, (W.isB[t]?).getD false = true → isBool P t = true
  isS : ∀ t, (W.isS[t]?).getD false = true → isStr P t = true
section
variable {P : Program} {W : Tb} (hW : TbOk P W) {σ : St} {K : Kt} {nid : Nat}
include hW
end

def allP (P : Program) (CP : CPt) : Prop := ∀ g as r, CP g as = some r → PCall P g as r
def allH (P : Program) (CH : CHt) : Prop := ∀ g ps hs n r h', CH g ps hs n = some (r, h') → HCall P g ps hs n r h'

section
variable {P : Program} {W : Tb} (hW : TbOk P W) {CP : CPt} {CH : CHt} (hP : allP P CP) (hH : allH P CH) {σ : St} {K : Kt} {nid : Nat}
include hW
end
end Go.Pm
/-
  The pure machine, run: code and calls.
-/
set_option linter.unusedSimpArgs false
set_option linter.unusedVariables false
namespace Go.Pm
open Go.RowKit
set_option linter.unusedVariables false

section
variable {P : Program} {W : Tb} (hW : TbOk P W) {CP : CPt} {CH : CHt} (hP : allP P CP) (hH : allH P CH)
end

theorem get_cmpT : ∀ (t : Slots) (seen u : Nat), get (cmpT seen t) u = if seen.testBit u then .any else get t u
  | [], seen, u => by simp [cmpT, get]
  | (v, p) :: t, seen, u => by
    simp only [cmpT, get]
    split
    · rename_i hv
      rw [get_cmpT t seen u]
      by_cases e : v = u
      · subst e; rw [if_pos hv, if_pos hv]
      · rw [if_neg e]
    · rename_i hv
      simp only [get]
      by_cases e : v = u
      · subst e; rw [if_pos rfl, if_neg hv, if_pos rfl]
      · rw [if_neg e, if_neg e, get_cmpT t _ u, Nat.testBit_or, Nat.testBit_two_pow]
        simp [e]
theorem hget_cmpH : ∀ (t : Heap) (seen u : Nat), hget (cmpH seen t) u = if seen.testBit u then none else hget t u
  | [], seen, u => by simp [cmpH, hget]
  | (v, p) :: t, seen, u => by
    simp only [cmpH, hget]
    split
    · rename_i hv
      rw [hget_cmpH t seen u]
      by_cases e : v = u
      · subst e; rw [if_pos hv, if_pos hv]
      · rw [if_neg e]
    · rename_i hv
      simp only [hget]
      by_cases e : v = u
      · subst e; rw [if_pos rfl, if_neg hv, if_pos rfl]
      · rw [if_neg e, if_neg e, hget_cmpH t _ u, Nat.testBit_or, Nat.testBit_two_pow]
        simp [e]
theorem CI.cmp {E : Env} {Φ : Fr} {σ : St} {loc : Locs} {kn : Nat → Prop} {a : Act} {w : World} (h : CI E Φ σ loc kn a w) : CI E Φ (cmpS σ) loc kn a w := by
  have e : hget (cmpS σ).h = hget σ.h := funext fun u => by simp [cmpS, hget_cmpH]
  refine ⟨⟨by rw [e]; exact h.c.mc, fun u => ?_, h.c.size, h.c.known⟩, by rw [e]; exact h.i, h.le, h.nod⟩
  rw [e]
  have : get (cmpS σ).t u = get σ.t u := by simp [cmpS, get_cmpT]
  rw [this]
  exact h.c.slots u

section
variable {P : Program}
/-- a loop, ahead of one of its rounds -/
def LS (P : Program) (rd : Bool) (Y : List PV → St → (St → Bool → Prop) → Prop) (c : Code) (K : Exit → St → Prop) (σ : St) : Prop :=
  ∀ (E : Env) (Φ : Fr) (ro : Option Nat) (n : Nat) (loc : Locs) (kn : Nat → Prop) (a : Act) (w : World), (rd = false → ro = none) → YOk P E Φ ro n Y → CI E Φ σ loc kn a w →
    ∀ (b : Frame) (k : List Item) (cs : List Frame), b.roundOf = (FW ro).round → (FW ro).fn b.fn → (FW ro).room (cs.length + 1 + n) →
      ∃ e a' w', Reach E Φ K e a' w' ∧ ArrivesIn (Machine.fenced P (FW ro)) P (lone (b.atR a (.code c :: .inLoop c :: k)) cs w) b k cs e a' w'
theorem LS.loop {rd : Bool} {Y : List PV → St → (St → Bool → Prop) → Prop} {c : Code} {K : Exit → St → Prop} {σ : St} (h : LS P rd Y c K σ) : SC P rd Y (.loop c) K σ := fun E Φ ro n loc kn a w h1 h2 h3 b k cs hro hb hr => by
  obtain ⟨e, a', w', hq, harr⟩ := h E Φ ro n loc kn a w h1 h2 h3 b k cs hro hb hr
  exact ⟨e, a', w', hq, .of_steps (.one (fenced_calm hb hr rfl) stepR_loop) harr⟩
/-- a round of a loop that goes on -/
theorem LS.next {rd : Bool} {Y : List PV → St → (St → Bool → Prop) → Prop} {c : Code} {K : Exit → St → Prop} {σ τ : St} (h : SC P rd Y c (fun e ρ => e = .normal ∧ ρ = τ) σ) (hn : LS P rd Y c K (cmpS τ)) : LS P rd Y c K σ := fun E Φ ro n loc kn a w h1 h2 h3 b k cs hro hb hr => by
  obtain ⟨e, a1, w1, ⟨ρ, l, kk, ⟨rfl, rfl⟩, g2⟩, harr⟩ := h E Φ ro n loc kn a w h1 h2 h3 b (.inLoop c :: k) cs hro hb hr
  obtain ⟨e2, a2, w2, hq, harr2⟩ := hn E Φ ro n l kk a1 w1 h1 h2 g2.cmp b k cs hro hb hr
  exact ⟨e2, a2, w2, hq, .of_steps (StepsIn.trans harr (.one (fenced_calm hb hr rfl) stepR_inLoop)) harr2⟩
/-- a round of a loop that leaves it -/
theorem LS.last {rd : Bool} {Y : List PV → St → (St → Bool → Prop) → Prop} {c : Code} {K : Exit → St → Prop} {σ τ : St} {e0 : Exit} (he : e0 ≠ .normal) (h : SC P rd Y c (fun e ρ => e = e0 ∧ ρ = τ) σ) (hK : K e0 τ) : LS P rd Y c K σ := fun E Φ ro n loc kn a w h1 h2 h3 b k cs hro hb hr => by
  obtain ⟨e, a1, w1, ⟨ρ, l, kk, ⟨rfl, rfl⟩, g2⟩, harr⟩ := h E Φ ro n loc kn a w h1 h2 h3 b (.inLoop c :: k) cs hro hb hr
  have hq : Reach E Φ K e a1 w1 := ⟨_, l, kk, hK, g2⟩
  cases e with
  | normal => exact absurd rfl he
  | exit id => exact ⟨_, a1, w1, hq, .pass (x := .inLoop c) rfl (fun _ _ => .inl (by simp)) harr⟩
  | goto l' => exact ⟨_, a1, w1, hq, .pass (x := .inLoop c) rfl (fun _ _ => .inl (by simp)) harr⟩
  | ret => exact ⟨_, a1, w1, hq, .pass (x := .inLoop c) rfl (fun _ _ => .inl (by simp)) harr⟩
  | panic ch => exact ⟨_, a1, w1, hq, .pass (x := .inLoop c) rfl (fun _ _ => .inl (by simp)) harr⟩
  | outgrown => exact ⟨_, a1, w1, hq, .pass (x := .inLoop c) rfl (fun _ _ => .inl (by simp)) harr⟩

theorem SC.seq {rd : Bool} {Y : List PV → St → (St → Bool → Prop) → Prop} {x y : Code} {K : Exit → St → Prop} {σ : St} (h : SC P rd Y x (seqK (SC P rd Y y K) K) σ) : SC P rd Y (.seq x y) K σ := fun E Φ ro n loc kn a w h1 h2 h3 => by
  refine wpIn_seq (wpIn_mono (h E Φ ro n loc kn a w h1 h2 h3) (fun e a' w' ⟨τ, l, k, g1, g2⟩ => ?_))
  cases e with
  | normal => exact g1 E Φ ro n l k a' w' h1 h2 g2
  | _ => exact ⟨τ, l, k, g1, g2⟩
theorem SC.cond {rd : Bool} {Y : List PV → St → (St → Bool → Prop) → Prop} {c : Operand} {x y : Code} {K : Exit → St → Prop} {σ : St} {b : Bool} (hb : ev σ.t c = boolP b) (h : SC P rd Y (if b then x else y) K σ) : SC P rd Y (.cond c x y) K σ := fun E Φ ro n loc kn a w h1 h2 h3 => by
  have hv := evRep h3.c.slots c
  rw [hb] at hv
  have hv := PRep.val hv
  refine wpIn_cond_split hv (fun e => ?_) (fun e => ?_)
  · subst e; exact h E Φ ro n loc kn a w h1 h2 h3
  · subst e; exact h E Φ ro n loc kn a w h1 h2 h3
theorem SC.block {rd : Bool} {Y : List PV → St → (St → Bool → Prop) → Prop} {id : Nat} {b : Code} {K : Exit → St → Prop} {σ : St} (h : SC P rd Y b (blockK id K) σ) : SC P rd Y (.block id b) K σ := fun E Φ ro n loc kn a w h1 h2 h3 => by
  refine wpIn_block (wpIn_mono (h E Φ ro n loc kn a w h1 h2 h3) (fun e a' w' ⟨τ, l, k, h1, h2⟩ => ?_))
  cases e with
  | exit i =>
    simp only [blockK] at h1
    simp only [Exit.inBlock]
    split at h1
    · rename_i e; rw [if_pos e]; exact ⟨τ, l, k, h1, h2⟩
    · rename_i e; rw [if_neg e]; exact ⟨τ, l, k, h1, h2⟩
  | _ => exact ⟨τ, l, k, h1, h2⟩
theorem SC.scope {rd : Bool} {Y : List PV → St → (St → Bool → Prop) → Prop} {b : Code} {K : Exit → St → Prop} {σ : St} (h : SC P rd Y b (scopeK K) σ) : SC P rd Y (.scope b) K σ := fun E Φ ro n loc kn a w h1 h2 h3 => by
  refine wpIn_scope_straight (wpIn_mono (h E Φ ro n loc kn a w h1 h2 h3) (fun e a' w' ⟨τ, l, k, h1, h2⟩ => ?_))
  cases e with
  | goto l' => exact h1.elim
  | _ => exact ⟨τ, l, k, h1, h2⟩
variable {W : Tb} (hW : TbOk P W) {CP : CPt} {CH : CHt} (hP : allP P CP) (hH : allH P CH) (hmo : P.follows .mixedOrders = true)
end

section
variable {P : Program} {W : Tb} (hW : TbOk P W) {CP : CPt} {CH : CHt} (hP : allP P CP) (hH : allH P CH) (hmo : P.follows .mixedOrders = true)
include hW hP hH hmo
end
end Go.Pm
/-
  The pure machine: cutting a body into pieces, each with its own condition.
-/
set_option linter.unusedSimpArgs false
set_option linter.unusedVariables false
namespace Go.Pm
open Go.RowKit
section
variable {P : Program} {rd : Bool} {Y : List PV → St → (St → Bool → Prop) → Prop}
theorem SC.sub {c : Code} {K : Exit → St → Prop} {S τ : St} (h : SC P rd Y c K S) (hs : Sub S τ) (hn : τ.n ≤ S.n) : SC P rd Y c K τ := fun E Φ ro n loc _ a w h1 h2 h3 =>
  h E Φ ro n loc _ a w h1 h2 (h3.sub hs (Nat.le_trans h3.le hn))
/-- what a piece leaves: a state that is told, or an exit -/
def cutK (S : St) (K : Exit → St → Prop) : Exit → St → Prop
  | .normal, ρ => Sub S ρ ∧ ρ.n ≤ S.n
  | e, ρ => K e ρ
theorem SC.cut {x y : Code} {K : Exit → St → Prop} {σ : St} (S : St) (hx : SC P rd Y x (cutK S K) σ) (hy : SC P rd Y y K S) : SC P rd Y (.seq x y) K σ :=
  .seq (hx.mono fun e τ h => by
    cases e with
    | normal => exact hy.sub h.1 h.2
    | _ => exact h)
/-- what a piece leaves: one of some states -/
def cutX {α : Type} (S : α → St) (φ : α → Prop) (K : Exit → St → Prop) : Exit → St → Prop
  | .normal, ρ => ∃ a, φ a ∧ Sub (S a) ρ ∧ ρ.n ≤ (S a).n
  | e, ρ => K e ρ
theorem SC.cuts {α : Type} {x y : Code} {K : Exit → St → Prop} {σ : St} (S : α → St) (φ : α → Prop) (hx : SC P rd Y x (cutX S φ K) σ) (hy : ∀ a, φ a → SC P rd Y y K (S a)) : SC P rd Y (.seq x y) K σ :=
  .seq (hx.mono fun e τ h => by
    cases e with
    | normal => obtain ⟨a, h1, h2, h3⟩ := h; exact (hy a h1).sub h2 h3
    | _ => exact h)
@[go_sem] theorem cutK_normal {S : St} {K : Exit → St → Prop} {m n : Nat} {t : Slots} {h : Heap} : cutK S K .normal ⟨m, t, h, n⟩ = (Sub S ⟨m, t, h, n⟩ ∧ n ≤ S.n) := rfl
@[go_sem] theorem cutX_normal {α : Type} {S : α → St} {φ : α → Prop} {K : Exit → St → Prop} {m n : Nat} {t : Slots} {h : Heap} : cutX S φ K .normal ⟨m, t, h, n⟩ = ∃ a, φ a ∧ Sub (S a) ⟨m, t, h, n⟩ ∧ n ≤ (S a).n := rfl
/-- a piece that ends by leaving a block -/
theorem SC.weak {c : Code} {K K' : Exit → St → Prop} {σ : St} (h : SC P rd Y c K' σ) (hk : ∀ e τ, K' e τ → K e τ) : SC P rd Y c K σ := h.mono hk
theorem SC.loopI {b : Code} {K : Exit → St → Prop} {σ : St} {α : Type} (gs : List Gh) (inv : α → St) (φ : α → Prop) (m : α → Nat) (x0 : α) (h0 : φ x0) (hn : ∀ x, φ x → σ.n ≤ (inv x).n) (hs : ghosts gs σ (Sub (inv x0)))
    (hstep : ∀ x, φ x → SC P rd Y b (loopK inv φ m x K) (inv x)) : SC P rd Y (.loop b) K σ := fun E Φ ro n loc kn a w g1 g2 hc => by
  have hle := hc.le
  obtain ⟨σ', loc, kn, hs, hc⟩ := ghosts_sound hs hc
  intro b' k cs hro hb hr
  have key : ∀ n' x, m x = n' → φ x → ∀ loc kn a w, CI E Φ (inv x) loc kn a w →
      ∃ e a' w', Reach E Φ K e a' w' ∧ ArrivesIn (Machine.fenced P (FW ro)) P (lone (b'.atR a (.code b :: .inLoop b :: k)) cs w) b' k cs e a' w' := by
    intro n'
    induction n' using Nat.strongRecOn with
    | _ n' ih =>
      intro x hx hφ loc kn a w hc
      obtain ⟨e, a1, w1, ⟨τ, l, kk, h1, h2⟩, harr⟩ := hstep x hφ E Φ ro n loc kn a w g1 g2 hc b' (.inLoop b :: k) cs hro hb hr
      cases e with
      | normal =>
        obtain ⟨y, hy1, hy2, hy3⟩ := h1
        obtain ⟨e2, a2, w2, hq, harr2⟩ := ih (m y) (by omega) y rfl hy1 l _ a1 w1 (h2.sub hy3 (Nat.le_trans hle (hn y hy1)))
        exact ⟨e2, a2, w2, hq, .of_steps (StepsIn.trans harr (.one (fenced_calm hb hr rfl) stepR_inLoop)) harr2⟩
      | exit id => exact ⟨_, a1, w1, ⟨τ, l, kk, h1, h2⟩, .pass (x := .inLoop b) rfl (fun _ _ => .inl (by simp)) harr⟩
      | goto l' => exact ⟨_, a1, w1, ⟨τ, l, kk, h1, h2⟩, .pass (x := .inLoop b) rfl (fun _ _ => .inl (by simp)) harr⟩
      | ret => exact ⟨_, a1, w1, ⟨τ, l, kk, h1, h2⟩, .pass (x := .inLoop b) rfl (fun _ _ => .inl (by simp)) harr⟩
      | panic ch => exact ⟨_, a1, w1, ⟨τ, l, kk, h1, h2⟩, .pass (x := .inLoop b) rfl (fun _ _ => .inl (by simp)) harr⟩
      | outgrown => exact ⟨_, a1, w1, ⟨τ, l, kk, h1, h2⟩, .pass (x := .inLoop b) rfl (fun _ _ => .inl (by simp)) harr⟩
  obtain ⟨e, a', w', hq, harr⟩ := key _ x0 rfl h0 loc _ a w (hc.sub hs (Nat.le_trans hle (hn x0 h0)))
  exact ⟨e, a', w', hq, .of_steps (.one (fenced_calm hb hr rfl) stepR_loop) harr⟩
end
end Go.Pm
