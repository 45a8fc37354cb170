/-
  The pure machine, run: code and calls.
-/
import Derived.Test.YtaipmgpgklilkaaPmW
set_option linter.unusedSimpArgs false
set_option linter.unusedVariables false
namespace Go.Pm
open Go.RowKit

theorem eqN_ok {x y : Nat} (h : Nat.beq x y = true) : x = y := by simpa using h
theorem ltN_ok {x y : Nat} (h : Nat.blt x y = true) : x < y := by simpa [Nat.blt, Nat.succ_le_iff] using h
/-- what a yield does, when it is run -/
def YE (Y : Yt) (as : List PV) (σ : St) (K : St → Bool → Prop) : Prop := match Y as σ with
  | some (τ, b) => K τ b
  | none => False
theorem YE_no : YE noYt = noM.Y := rfl
section
variable {P : Program} {W : Tb} (hW : TbOk P W) {CP : CPt} {CH : CHt} (hP : allP P CP) (hH : allH P CH)
theorem eGuard_ok {ops : Array Oper} {g : Option (Nat × Bool)} {σ : St} {b : Bool} {k1 k2 : St → Prop} (h : eGuard ops g σ.t = some b) (h1 : b = true → k1 σ) (h2 : b = false → k2 σ) : guardV ops g σ k1 k2 := by
  unfold eGuard at h
  unfold guardV
  split at h
  · cases h; exact h1 rfl
  · split at h
    · rename_i d hd
      simp only [hd]
      split at h
      · rename_i c hc
        simp only [hc]
        cases h
        exact ⟨h1, h2⟩
      · rename_i hc
        simp only [hc]
        cases h
        exact h2 rfl
      · cases h
    · cases h
theorem dstB_ok {m : Nat} {d : Option Tmp} (h : dstB m d = true) : dstOk m d := by
  cases d with
  | none => trivial
  | some d => exact ltN_ok h
include hW hP hH
theorem eOps_ok {Y : Yt} {R : Operand → Array Tmp → Code → Code → (Exit → St → Prop) → St → Prop} {ops : Array Oper} {kk : St → Log → Prop} {τ : St} {log' : Log} (hk : kk τ log') : ∀ (l : List Oper) (i : Nat) (log : Log) (σ : St),
    eOps W CP CH Y ops l i log σ = some (τ, log') → vcOps P ⟨YE Y, R⟩ ops l i log kk σ
  | [], i, log, σ, h => by cases h; exact hk
  | o :: os, i, log, σ, h => by
    simp only [eOps] at h
    split at h
    · rename_i hd
      refine ⟨dstB_ok hd, ?_⟩
      split at h
      · rename_i hg
        refine eGuard_ok hg (fun _ => ?_) (fun e => by cases e)
        unfold opY
        split at h
        · rename_i as hy
          simp only [hy]
          unfold YE
          split at h
          · rename_i τ1 b hb
            simp only [hb]
            exact eOps_ok hk os _ _ _ h
          · cases h
        · rename_i hy
          simp only [hy]
          split at h
          · rename_i r U rd hr
            rw [fQ_eq] at h
            exact eOp_ok hW hP hH hr (eOps_ok hk os _ _ _ h)
          · cases h
      · rename_i hg
        exact eGuard_ok hg (fun e => by cases e) (fun _ => eOps_ok hk os _ _ _ h)
      · cases h
    · cases h
end

theorem get_cmpT : ∀ (t : Slots) (seen u : Nat), get (cmpT seen t) u = if seen.testBit u then .any else get t u
  | [], seen, u => by simp [cmpT, get]
  | (v, p) :: t, seen, u => by
    simp only [cmpT, get]
    split
    · rename_i hv
      rw [get_cmpT t seen u]
      by_cases e : v = u
      · subst e; rw [if_pos hv, if_pos hv]
      · rw [if_neg e]
    · rename_i hv
      simp only [get]
      by_cases e : v = u
      · subst e; rw [if_pos rfl, if_neg hv, if_pos rfl]
      · rw [if_neg e, if_neg e, get_cmpT t _ u, Nat.testBit_or, Nat.testBit_two_pow]
        simp [e]
theorem hget_cmpH : ∀ (t : Heap) (seen u : Nat), hget (cmpH seen t) u = if seen.testBit u then none else hget t u
  | [], seen, u => by simp [cmpH, hget]
  | (v, p) :: t, seen, u => by
    simp only [cmpH, hget]
    split
    · rename_i hv
      rw [hget_cmpH t seen u]
      by_cases e : v = u
      · subst e; rw [if_pos hv, if_pos hv]
      · rw [if_neg e]
    · rename_i hv
      simp only [hget]
      by_cases e : v = u
      · subst e; rw [if_pos rfl, if_neg hv, if_pos rfl]
      · rw [if_neg e, if_neg e, hget_cmpH t _ u, Nat.testBit_or, Nat.testBit_two_pow]
        simp [e]
theorem CI.cmp {E : Env} {Φ : Fr} {σ : St} {loc : Locs} {kn : Nat → Prop} {a : Act} {w : World} (h : CI E Φ σ loc kn a w) : CI E Φ (cmpS σ) loc kn a w := by
  have e : hget (cmpS σ).h = hget σ.h := funext fun u => by simp [cmpS, hget_cmpH]
  refine ⟨⟨by rw [e]; exact h.c.mc, fun u => ?_, h.c.size, h.c.known⟩, by rw [e]; exact h.i, h.le, h.nod⟩
  rw [e]
  have : get (cmpS σ).t u = get σ.t u := by simp [cmpS, get_cmpT]
  rw [this]
  exact h.c.slots u

mutual
theorem noYdB_ok : ∀ (p : PV), noYdB p = true → noYd p
  | .yd, h => by cases h
  | .lt cs, h => noYsB_ok cs h
  | .lp cs, h => noYsB_ok cs h
  | .agg cs, h => noYsB_ok cs h
  | .tup cs, h => noYsB_ok cs h
  | .fn _ cs, h => noYsB_ok cs h
  | .any, _ => trivial
  | .d _, _ => trivial
  | .nl, _ => trivial
  | .bw _, _ => trivial
  | .sr _ _, _ => trivial
  | .pr _ _ _ _, _ => trivial
  | .st _ _, _ => trivial
  | .tv _ _ _ _, _ => trivial
  | .po _ _ _, _ => trivial
  | .sw _ _, _ => trivial
  | .pw _ _ _ _, _ => trivial
theorem noYsB_ok : ∀ (l : List PV), noYsB l = true → noYs l
  | [], _ => trivial
  | p :: l, h => by
    simp only [noYsB, Bool.and_eq_true] at h
    exact ⟨noYdB_ok p h.1, noYsB_ok l h.2⟩
end
theorem noYTB_ok : ∀ (t : Slots), noYTB t = true → noYT t
  | [], _ => trivial
  | (_, p) :: t, h => by
    simp only [noYTB, Bool.and_eq_true] at h
    exact ⟨noYdB_ok p h.1, noYTB_ok t h.2⟩
theorem noYHB_ok : ∀ (t : Heap), noYHB t = true → noYH t
  | [], _ => trivial
  | (_, .box cs) :: t, h => by
    simp only [noYHB, Bool.and_eq_true] at h
    exact ⟨noYsB_ok cs h.1, noYHB_ok t h.2⟩
  | (_, .arr _) :: t, h => noYHB_ok t h
  | (_, .tab _) :: t, h => noYHB_ok t h
  | (_, .dead) :: t, h => noYHB_ok t h
theorem allLtB_ok {m : Nat} : ∀ (t : List Tmp), allLtB m t = true → allLt m t
  | [], _ => trivial
  | p :: t, h => by
    simp only [allLtB, Bool.and_eq_true] at h
    exact ⟨ltN_ok h.1, allLtB_ok t h.2⟩

section
variable {P : Program}
/-- a loop, ahead of one of its rounds -/
def LS (P : Program) (rd : Bool) (Y : List PV → St → (St → Bool → Prop) → Prop) (c : Code) (K : Exit → St → Prop) (σ : St) : Prop :=
  ∀ (E : Env) (Φ : Fr) (ro : Option Nat) (n : Nat) (loc : Locs) (kn : Nat → Prop) (a : Act) (w : World), (rd = false → ro = none) → YOk P E Φ ro n Y → CI E Φ σ loc kn a w →
    ∀ (b : Frame) (k : List Item) (cs : List Frame), b.roundOf = (FW ro).round → (FW ro).fn b.fn → (FW ro).room (cs.length + 1 + n) →
      ∃ e a' w', Reach E Φ K e a' w' ∧ ArrivesIn (Machine.fenced P (FW ro)) P (lone (b.atR a (.code c :: .inLoop c :: k)) cs w) b k cs e a' w'
theorem LS.loop {rd : Bool} {Y : List PV → St → (St → Bool → Prop) → Prop} {c : Code} {K : Exit → St → Prop} {σ : St} (h : LS P rd Y c K σ) : SC P rd Y (.loop c) K σ := fun E Φ ro n loc kn a w h1 h2 h3 b k cs hro hb hr => by
  obtain ⟨e, a', w', hq, harr⟩ := h E Φ ro n loc kn a w h1 h2 h3 b k cs hro hb hr
  exact ⟨e, a', w', hq, .of_steps (.one (fenced_calm hb hr rfl) stepR_loop) harr⟩
/-- a round of a loop that goes on -/
theorem LS.next {rd : Bool} {Y : List PV → St → (St → Bool → Prop) → Prop} {c : Code} {K : Exit → St → Prop} {σ τ : St} (h : SC P rd Y c (fun e ρ => e = .normal ∧ ρ = τ) σ) (hn : LS P rd Y c K (cmpS τ)) : LS P rd Y c K σ := fun E Φ ro n loc kn a w h1 h2 h3 b k cs hro hb hr => by
  obtain ⟨e, a1, w1, ⟨ρ, l, kk, ⟨rfl, rfl⟩, g2⟩, harr⟩ := h E Φ ro n loc kn a w h1 h2 h3 b (.inLoop c :: k) cs hro hb hr
  obtain ⟨e2, a2, w2, hq, harr2⟩ := hn E Φ ro n l kk a1 w1 h1 h2 g2.cmp b k cs hro hb hr
  exact ⟨e2, a2, w2, hq, .of_steps (StepsIn.trans harr (.one (fenced_calm hb hr rfl) stepR_inLoop)) harr2⟩
/-- a round of a loop that leaves it -/
theorem LS.last {rd : Bool} {Y : List PV → St → (St → Bool → Prop) → Prop} {c : Code} {K : Exit → St → Prop} {σ τ : St} {e0 : Exit} (he : e0 ≠ .normal) (h : SC P rd Y c (fun e ρ => e = e0 ∧ ρ = τ) σ) (hK : K e0 τ) : LS P rd Y c K σ := fun E Φ ro n loc kn a w h1 h2 h3 b k cs hro hb hr => by
  obtain ⟨e, a1, w1, ⟨ρ, l, kk, ⟨rfl, rfl⟩, g2⟩, harr⟩ := h E Φ ro n loc kn a w h1 h2 h3 b (.inLoop c :: k) cs hro hb hr
  have hq : Reach E Φ K e a1 w1 := ⟨_, l, kk, hK, g2⟩
  cases e with
  | normal => exact absurd rfl he
  | exit id => exact ⟨_, a1, w1, hq, .pass (x := .inLoop c) rfl (fun _ _ => .inl (by simp)) harr⟩
  | goto l' => exact ⟨_, a1, w1, hq, .pass (x := .inLoop c) rfl (fun _ _ => .inl (by simp)) harr⟩
  | ret => exact ⟨_, a1, w1, hq, .pass (x := .inLoop c) rfl (fun _ _ => .inl (by simp)) harr⟩
  | panic ch => exact ⟨_, a1, w1, hq, .pass (x := .inLoop c) rfl (fun _ _ => .inl (by simp)) harr⟩
  | outgrown => exact ⟨_, a1, w1, hq, .pass (x := .inLoop c) rfl (fun _ _ => .inl (by simp)) harr⟩

theorem CI.gst1 {E : Env} {Φ : Fr} {σ : St} {loc : Locs} {kn : Nat → Prop} {a : Act} {w : World} {x : Nat × Nat × Nat × Nat × Nat × Nat} (h : CI E Φ σ loc kn a w) : ∃ loc' kn', CI E Φ (gst1 x σ) loc' kn' a w := by
  obtain ⟨m, u, j, el, rel, k⟩ := x
  unfold Go.Pm.gst1
  dsimp only
  split
  · rename_i hc
    simp only [Bool.and_eq_true] at hc
    split
    · rename_i id ver i off hp
      split
      · rename_i cs hob
        split
        · rename_i hj
          obtain ⟨τ, l, kk, hk, hci⟩ := ghost_sound (g := .tabB id j el rel k) (K := fun τ => τ = ⟨σ.m, σ.t, (id, .box (cs.set j (.st σ.n 0))) :: (σ.n, .tab ⟨el, rel, k, 0, false, [], []⟩) :: σ.h, σ.n + 1⟩) (by
            unfold ghost
            exact got_mk hob ⟨⟨hj, ltN_ok hc.2⟩, rfl⟩) h
          subst hk
          exact ⟨l, kk, hci⟩
        · exact ⟨loc, kn, h⟩
      · exact ⟨loc, kn, h⟩
    · exact ⟨loc, kn, h⟩
  · exact ⟨loc, kn, h⟩
theorem CI.gst {E : Env} {Φ : Fr} {a : Act} {w : World} : ∀ (l : List (Nat × Nat × Nat × Nat × Nat × Nat)) {σ : St} {loc : Locs} {kn : Nat → Prop}, CI E Φ σ loc kn a w → ∃ loc' kn', CI E Φ (gst l σ) loc' kn' a w
  | [], _, loc, kn, h => ⟨loc, kn, h⟩
  | x :: l, _, _, _, h => by
    obtain ⟨l1, k1, h1⟩ := h.gst1 (x := x)
    exact CI.gst l h1
theorem LS.gst {rd : Bool} {Y : List PV → St → (St → Bool → Prop) → Prop} {c : Code} {K : Exit → St → Prop} {σ : St} (l : List (Nat × Nat × Nat × Nat × Nat × Nat)) (h : LS P rd Y c K (gst l σ)) : LS P rd Y c K σ := fun E Φ ro n loc kn a w h1 h2 h3 => by
  obtain ⟨l1, k1, h4⟩ := CI.gst l h3
  exact h E Φ ro n l1 k1 a w h1 h2 h4
theorem SC.reg {rd : Bool} {Y : List PV → St → (St → Bool → Prop) → Prop} {id : Nat} {ops : Array Oper} {K : Exit → St → Prop} {σ : St} (h : vcOps P ⟨Y, noM.R⟩ ops ops.toList 0 [] (fun τ _ => K .normal (bump τ ops.size)) σ) : SC P rd Y (.region id ops false) K σ := fun E Φ ro n loc kn a w _ hy hc => region_sound (M := ⟨Y, noM.R⟩) hy h hc
theorem SC.draw (hmo : P.follows .mixedOrders = true) {rd : Bool} {Y : List PV → St → (St → Bool → Prop) → Prop} {id : Nat} {ops : Array Oper} {K : Exit → St → Prop} {σ : St} (h : vcOps P noM ops ops.toList 0 [] (fun τ log => Side (raceOk ops log = true) (bump τ ops.size) (K .normal)) σ) : SC P rd Y (.region id ops true) K σ := fun E Φ ro n loc kn a w _ _ hc => draw_sound hmo h hc
theorem SC.seq {rd : Bool} {Y : List PV → St → (St → Bool → Prop) → Prop} {x y : Code} {K : Exit → St → Prop} {σ : St} (h : SC P rd Y x (seqK (SC P rd Y y K) K) σ) : SC P rd Y (.seq x y) K σ := fun E Φ ro n loc kn a w h1 h2 h3 => by
  refine wpIn_seq (wpIn_mono (h E Φ ro n loc kn a w h1 h2 h3) (fun e a' w' ⟨τ, l, k, g1, g2⟩ => ?_))
  cases e with
  | normal => exact g1 E Φ ro n l k a' w' h1 h2 g2
  | _ => exact ⟨τ, l, k, g1, g2⟩
theorem SC.cond {rd : Bool} {Y : List PV → St → (St → Bool → Prop) → Prop} {c : Operand} {x y : Code} {K : Exit → St → Prop} {σ : St} {b : Bool} (hb : ev σ.t c = boolP b) (h : SC P rd Y (if b then x else y) K σ) : SC P rd Y (.cond c x y) K σ := fun E Φ ro n loc kn a w h1 h2 h3 => by
  have hv := evRep h3.c.slots c
  rw [hb] at hv
  have hv := PRep.val hv
  refine wpIn_cond_split hv (fun e => ?_) (fun e => ?_)
  · subst e; exact h E Φ ro n loc kn a w h1 h2 h3
  · subst e; exact h E Φ ro n loc kn a w h1 h2 h3
theorem SC.block {rd : Bool} {Y : List PV → St → (St → Bool → Prop) → Prop} {id : Nat} {b : Code} {K : Exit → St → Prop} {σ : St} (h : SC P rd Y b (blockK id K) σ) : SC P rd Y (.block id b) K σ := fun E Φ ro n loc kn a w h1 h2 h3 => by
  refine wpIn_block (wpIn_mono (h E Φ ro n loc kn a w h1 h2 h3) (fun e a' w' ⟨τ, l, k, h1, h2⟩ => ?_))
  cases e with
  | exit i =>
    simp only [blockK] at h1
    simp only [Exit.inBlock]
    split at h1
    · rename_i e; rw [if_pos e]; exact ⟨τ, l, k, h1, h2⟩
    · rename_i e; rw [if_neg e]; exact ⟨τ, l, k, h1, h2⟩
  | _ => exact ⟨τ, l, k, h1, h2⟩
theorem SC.scope {rd : Bool} {Y : List PV → St → (St → Bool → Prop) → Prop} {b : Code} {K : Exit → St → Prop} {σ : St} (h : SC P rd Y b (scopeK K) σ) : SC P rd Y (.scope b) K σ := fun E Φ ro n loc kn a w h1 h2 h3 => by
  refine wpIn_scope_straight (wpIn_mono (h E Φ ro n loc kn a w h1 h2 h3) (fun e a' w' ⟨τ, l, k, h1, h2⟩ => ?_))
  cases e with
  | goto l' => exact h1.elim
  | _ => exact ⟨τ, l, k, h1, h2⟩
theorem SC.ranges {Y : List PV → St → (St → Bool → Prop) → Prop} {g : Operand} {ps : Array Tmp} {asg body : Code} {K : Exit → St → Prop} {σ : St} (h : RangeS P g ps asg body K σ) : SC P false Y (.rangeFunc g ps asg body) K σ := fun E Φ ro n loc kn a w h1 h2 h3 => by
  obtain rfl := h1 rfl
  exact range_soundS g ps asg body K σ loc kn a w h h3

variable {W : Tb} (hW : TbOk P W) {CP : CPt} {CH : CHt} (hP : allP P CP) (hH : allH P CH) (hmo : P.follows .mixedOrders = true)
/-- what is asked of a run: it says what is so -/
def COk (P : Program) (C : Ct) : Prop := (∀ rd Y c σ e τ, C rd Y c σ = some (e, τ) → ∀ K : Exit → St → Prop, K e τ → SC P rd (YE Y) c K σ) ∧
  (∀ rd Y c σ e τ, C rd Y (.loop c) σ = some (e, τ) → ∀ K : Exit → St → Prop, K e τ → LS P rd (YE Y) c K σ)
theorem kRound_ok {C : Ct} (hC : COk P C) {σ τ : St} {ps : Array Tmp} {asg body : Code} {as : List PV} {K : St → Bool → Prop} (hl : allLt σ.m ps.toList) (h : YE (yNum (kRound C σ ps asg body) ps) as τ K) : roundS P σ ps asg body as τ K := by
  unfold YE yNum at h
  split at h
  · rename_i τ1 b hb
    split at hb
    · rename_i hn
      unfold kRound at hb
      split at hb
      · rename_i ρ h1
        split at hb
        · rename_i ρ2 h2
          cases hb
          exact ⟨eqN_ok hn, hl, hC.1 _ _ _ _ _ _ h1 _ (hC.1 _ _ _ _ _ _ h2 _ h)⟩
        · cases hb
      · cases hb
    · cases hb
  · exact h.elim
include hW hP hH hmo
theorem kCode_ok {C : Ct} (hC : COk P C) : COk P (kCode P W CP CH C) := by
  have key : ∀ rd Y c σ e τ, kCode P W CP CH C rd Y (.loop c) σ = some (e, τ) → ∀ K : Exit → St → Prop, K e τ → LS P rd (YE Y) c K σ := fun rd Y c σ e τ h K hK => by
    simp only [kCode, kLoop] at h
    refine .gst W.gh ?_
    split at h
    · rename_i ρ h1
      exact .next (hC.1 _ _ _ _ _ _ h1 _ ⟨rfl, rfl⟩) (hC.2 _ _ _ _ _ _ h _ hK)
    · rename_i hne
      exact .last (fun e1 => by subst e1; exact hne _ h) (hC.1 _ _ _ _ _ _ h _ ⟨rfl, rfl⟩) hK
  refine ⟨fun rd Y c σ e τ h K hK => ?_, key⟩
  cases c with
  | skip => cases h; exact fun E Φ ro n loc kn a w _ _ hc => wpIn_skip ⟨_, loc, kn, hK, hc⟩
  | exit id => cases h; exact fun E Φ ro n loc kn a w _ _ hc => wpIn_exit ⟨_, loc, kn, hK, hc⟩
  | label l => cases h; exact fun E Φ ro n loc kn a w _ _ hc => wpIn_label ⟨_, loc, kn, hK, hc⟩
  | ret => cases h; exact fun E Φ ro n loc kn a w _ _ hc => wpIn_ret ⟨_, loc, kn, hK, hc⟩
  | region id ops d =>
    simp only [kCode, kReg] at h
    split at h
    · rename_i ρ log h1
      split at h
      · rename_i hr
        cases h
        cases d with
        | false => exact .reg (eOps_ok hW hP hH hK _ _ _ _ h1)
        | true =>
          refine .draw hmo ?_
          have hr : raceOk ops log = true := by simpa using hr
          exact eOps_ok (Y := noYt) (R := noM.R) hW hP hH (kk := fun τ log => Side (raceOk ops log = true) (bump τ ops.size) (K .normal)) ⟨hr, hK⟩ _ _ _ _ h1
      · cases h
    · cases h
  | seq x y =>
    simp only [kCode, kSeq] at h
    refine .seq ?_
    split at h
    · rename_i ρ h1
      exact hC.1 _ _ _ _ _ _ h1 _ (hC.1 _ _ _ _ _ _ h _ hK)
    · rename_i hne
      refine hC.1 _ _ _ _ _ _ h _ ?_
      cases e with
      | normal => exact absurd h (hne _)
      | _ => exact hK
  | cond c x y =>
    simp only [kCode, kCond] at h
    split at h
    · rename_i hc; exact .cond hc (hC.1 _ _ _ _ _ _ h _ hK)
    · rename_i hc; exact .cond hc (hC.1 _ _ _ _ _ _ h _ hK)
    · cases h
  | block id b =>
    simp only [kCode, kBlock] at h
    refine .block ?_
    split at h
    · rename_i i ρ h1
      refine hC.1 _ _ _ _ _ _ h1 _ ?_
      show if i = id then K .normal ρ else K (.exit i) ρ
      split at h
      · rename_i e; cases h; rw [if_pos e]; exact hK
      · rename_i e; cases h; rw [if_neg e]; exact hK
    · rename_i hne
      refine hC.1 _ _ _ _ _ _ h _ ?_
      cases e with
      | exit i => exact absurd h (hne _ _)
      | _ => exact hK
  | loop b => exact (key rd Y b σ e τ h K hK).loop
  | scope b =>
    simp only [kCode, kScope] at h
    refine .scope ?_
    split at h
    · cases h
    · rename_i hne
      refine hC.1 _ _ _ _ _ _ h _ ?_
      cases e with
      | goto i => exact absurd h (hne _ _)
      | _ => exact hK
  | rangeFunc g ps asg body =>
    simp only [kCode] at h
    cases rd with
    | true => cases h
    | false =>
      simp only [Bool.false_eq_true, if_false] at h
      refine .ranges ?_
      unfold kRange at h
      unfold RangeS
      split at h
      · rename_i gf caps hg
        simp only [hg]
        split at h
        · rename_i fn hf
          split at h
          · rename_i c hb
            split at h
            · rename_i hcond
              simp only [Bool.and_eq_true, Bool.not_eq_true', Nat.beq_eq, Nat.ble_eq] at hcond
              obtain ⟨⟨⟨⟨⟨c1, c2⟩, c3⟩, c4⟩, c5⟩, c6⟩ := hcond
              refine ⟨fn, c, hf, hb, c1, Array.eq_empty_of_size_eq_zero c2, c3, noYTB_ok _ c4, noYHB_ok _ c5, ?_⟩
              have hy : ∀ as τ K, YE (yNum (kRound C σ ps asg body) ps) as τ K → roundS P σ ps asg body as τ K := fun as τ K h => kRound_ok hC (allLtB_ok _ c6) h
              unfold kItEnd at h
              split at h
              · rename_i ρ h1
                split at h
                · rename_i hn
                  cases h
                  exact fun E Φ ro n loc kn a w g1 g2 g3 => hC.1 _ _ _ _ _ _ h1 (itK σ K) ⟨noYHB_ok _ hn, hK⟩ E Φ ro n loc kn a w g1 (g2.anti hy) g3
                · cases h
              · rename_i ρ h1
                split at h
                · rename_i hn
                  cases h
                  exact fun E Φ ro n loc kn a w g1 g2 g3 => hC.1 _ _ _ _ _ _ h1 (itK σ K) ⟨noYHB_ok _ hn, hK⟩ E Φ ro n loc kn a w g1 (g2.anti hy) g3
                · cases h
              · cases h
            · cases h
          · cases h
        · cases h
      · cases h
  | _ => cases h
theorem evC_ok : ∀ f, COk P (evC P W CP CH f)
  | 0 => ⟨fun _ _ _ _ _ _ h => (by cases h), fun _ _ _ _ _ _ h => (by cases h)⟩
  | f + 1 => kCode_ok hW hP hH hmo (evC_ok f)
end

/-! ### calls -/
theorem eRet1_ok {hg : Nat → Option Ob} {p : PV} {r : R1} (h : eRet1 hg p = some r) : retIs hg p r := by
  have d : ∀ {p : PV}, (d1 hg p).map R1.d = some r → retIs hg p r := fun {p} h => by
    obtain ⟨x, hx, rfl⟩ := Option.map_eq_some_iff.1 h
    exact hx
  unfold eRet1 at h
  split at h
  · split at h
    · rename_i id ver a ha
      split at h
      · rename_i hc
        simp only [Bool.and_eq_true, Bool.not_eq_true', Nat.beq_eq] at hc
        cases h
        simp only [retIs, ha]
        exact ⟨hc.1, hc.2, trivial, trivial, trivial⟩
      · exact d h
    · cases h
  · exact d h
theorem eRets_ok {hg : Nat → Option Ob} : ∀ {ps : List PV} {rs : List R1}, eRets hg ps = some rs → retsIs hg ps rs ∧ ps.length = rs.length
  | [], rs, h => by cases h; exact ⟨trivial, rfl⟩
  | p :: ps, rs, h => by
    simp only [eRets] at h
    split at h
    · rename_i r rs' h1 h2
      cases h
      obtain ⟨g1, g2⟩ := eRets_ok h2
      exact ⟨⟨eRet1_ok h1, g1⟩, by simp [g2]⟩
    · cases h
theorem apartB_ok : ∀ {l fr : List Nat}, apartB l fr = true → apart l fr
  | [], _, _ => trivial
  | i :: l, fr, h => by
    simp only [apartB, Bool.and_eq_true, Bool.not_eq_true'] at h
    exact ⟨memN_no h.1.1, memN_no h.1.2, apartB_ok h.2⟩
theorem kRet_ok {P : Program} {fn : Func} {τ : St} {r : R} (h : kRet P fn τ = some r) : RetS P fn r τ := by
  unfold kRet at h
  split at h
  · rename_i ps hps
    split at h
    · rename_i rs hrs
      split at h
      · rename_i hap
        obtain ⟨h1, h2⟩ := eRets_ok hrs
        refine got_mk hps ?_
        split at h
        · rename_i r1
          cases h
          exact ⟨h2, h1, apartB_ok hap⟩
        · rename_i hne
          cases h
          refine ⟨fun e => ?_, h1, apartB_ok hap⟩
          match rs, h2, e, hne with
          | [x], _, _, hne => exact hne x rfl
          | [], h2, e, _ => rw [h2] at e; cases e
          | _ :: _ :: _, h2, e, _ => rw [h2] at e; simp at e
      · cases h
    · cases h
  · cases h
mutual
theorem refsInB_ok {S : List Nat} : ∀ (p : PV), refsInB S p = true → refsIn (fun id => id ∈ S) False p
  | .sr _ _, h => memN_ok.1 h
  | .pr _ _ _ _, h => memN_ok.1 h
  | .st _ _, h => memN_ok.1 h
  | .tv _ _ _ _, h => memN_ok.1 h
  | .po _ _ _, h => memN_ok.1 h
  | .sw _ _, h => memN_ok.1 h
  | .pw _ _ _ _, h => memN_ok.1 h
  | .lt cs, h => refsInsB_ok cs h
  | .lp cs, h => refsInsB_ok cs h
  | .agg cs, h => refsInsB_ok cs h
  | .tup cs, h => refsInsB_ok cs h
  | .fn _ cs, h => refsInsB_ok cs h
  | .any, _ => trivial
  | .d _, _ => trivial
  | .nl, _ => trivial
  | .yd, h => by cases h
  | .bw _, h => by cases h
theorem refsInsB_ok {S : List Nat} : ∀ (l : List PV), refsInsB S l = true → refsIns (fun id => id ∈ S) False l
  | [], _ => trivial
  | p :: l, h => by
    simp only [refsInsB, Bool.and_eq_true] at h
    exact ⟨refsInB_ok p h.1, refsInsB_ok l h.2⟩
end
mutual
theorem refsLtB_ok {n : Nat} : ∀ (p : PV), refsLtB n p = true → refsLt n p
  | .sr _ _, h => ltN_ok h
  | .pr _ _ _ _, h => ltN_ok h
  | .st _ _, h => ltN_ok h
  | .tv _ _ _ _, h => ltN_ok h
  | .po _ _ _, h => ltN_ok h
  | .sw _ _, h => ltN_ok h
  | .pw _ _ _ _, h => ltN_ok h
  | .lt cs, h => refsLtsB_ok cs h
  | .lp cs, h => refsLtsB_ok cs h
  | .agg cs, h => refsLtsB_ok cs h
  | .tup cs, h => refsLtsB_ok cs h
  | .fn _ cs, h => refsLtsB_ok cs h
  | .any, _ => trivial
  | .d _, _ => trivial
  | .nl, _ => trivial
  | .yd, _ => trivial
  | .bw _, _ => trivial
theorem refsLtsB_ok {n : Nat} : ∀ (l : List PV), refsLtsB n l = true → refsLts n l
  | [], _ => trivial
  | p :: l, h => by
    simp only [refsLtsB, Bool.and_eq_true] at h
    exact ⟨refsLtB_ok p h.1, refsLtsB_ok l h.2⟩
end
theorem heapLtB_ok {n : Nat} : ∀ (t : Heap), heapLtB n t = true → heapLt n t
  | [], _ => trivial
  | (_, .box cs) :: t, h => by
    simp only [heapLtB, Bool.and_eq_true] at h
    exact ⟨ltN_ok h.1.1, refsLtsB_ok cs h.1.2, heapLtB_ok t h.2⟩
  | (_, .arr _) :: t, h => by
    simp only [heapLtB, Bool.and_eq_true] at h
    exact ⟨ltN_ok h.1, heapLtB_ok t h.2⟩
  | (_, .tab _) :: t, h => by
    simp only [heapLtB, Bool.and_eq_true] at h
    exact ⟨ltN_ok h.1, heapLtB_ok t h.2⟩
  | (_, .dead) :: t, h => by
    simp only [heapLtB, Bool.and_eq_true] at h
    exact ⟨ltN_ok h.1, heapLtB_ok t h.2⟩
theorem clHB_ok {S : List Nat} {h : Heap} : ∀ (l : List Nat), clHB S h l = true → clH (fun id => id ∈ S) h l
  | [], _ => trivial
  | id :: l, hh => by
    simp only [clHB, Bool.and_eq_true] at hh
    refine ⟨?_, clHB_ok l hh.2⟩
    have h1 := hh.1
    revert h1
    cases hget h id with
    | none => exact fun _ => trivial
    | some ob => cases ob <;> first | exact fun h1 => refsInsB_ok _ h1 | exact fun _ => trivial
theorem newIds_ge {nid : Nat} : ∀ (h : Heap), ∀ c ∈ newIds nid h, nid ≤ c
  | [], c, hc => by cases hc
  | (id, _) :: l, c, hc => by
    simp only [newIds] at hc
    split at hc
    · rename_i hi
      rcases List.mem_cons.1 hc with rfl | hc
      · exact Nat.ble_eq ▸ hi
      · exact newIds_ge l c hc
    · exact newIds_ge l c hc
theorem kRetH_ok {P : Program} {fn : Func} {hs : Heap} {nid : Nat} {τ : St} {r : PV} {h' : Heap} (h : kRetH P fn hs nid τ = some (r, h')) : ∃ L, RetH P fn (hs.map (·.1)) nid L r h' τ := by
  unfold kRetH at h
  split at h
  · rename_i ps hps
    unfold kRetH2 at h
    split at h
    · rename_i o ho
      split at h
      · rename_i hc
        simp only [Bool.and_eq_true, Nat.ble_eq] at hc
        cases h
        exact ⟨_, got_mk hps (got_mk ho ⟨⟨hc.1.1, newIds_ge _, refsInB_ok _ hc.1.2, clHB_ok _ hc.2⟩, rfl, rfl⟩)⟩
      · cases h
    · cases h
  · cases h
section
variable {P : Program} {W : Tb} (hW : TbOk P W) {CP : CPt} {CH : CHt} (hP : allP P CP) (hH : allH P CH) (hmo : P.follows .mixedOrders = true)
include hW hP hH hmo
theorem kCall_ok {f : Nat} {g : FuncId} {as : List PV} {r : R} (h : kCall P W CP CH f g as = some r) : PCall P g as r := by
  unfold kCall at h
  split at h
  · rename_i fn hf
    split at h
    · rename_i c hb
      split at h
      · rename_i hc
        simp only [Bool.and_eq_true, Bool.not_eq_true', Nat.ble_eq] at hc
        refine pcallS_of hf hb hc.1 hc.2 (YE_no ▸ ?_)
        split at h
        · rename_i τ h1; exact (evC_ok hW hP hH hmo f).1 _ _ _ _ _ _ h1 _ (kRet_ok h)
        · rename_i τ h1; exact (evC_ok hW hP hH hmo f).1 _ _ _ _ _ _ h1 _ (kRet_ok h)
        · cases h
      · cases h
    · cases h
  · cases h
theorem kCallH_ok {f : Nat} {g : FuncId} {ps : List PV} {hs : Heap} {nid : Nat} {r : PV} {h' : Heap} (h : kCallH P W CP CH f g ps hs nid = some (r, h')) : HCall P g ps hs nid r h' := by
  unfold kCallH at h
  split at h
  · rename_i fn hf
    split at h
    · rename_i c hb
      split at h
      · rename_i hc
        simp only [Bool.and_eq_true, Bool.not_eq_true', Nat.ble_eq] at hc
        split at h
        · rename_i τ h1
          obtain ⟨L, hL⟩ := kRetH_ok h
          exact hcallS_of hf hb hc.1.1.1 hc.1.1.2 (heapLtB_ok _ hc.1.2) (refsLtsB_ok _ hc.2) ((evC_ok hW hP hH hmo f).1 _ _ _ _ _ _ h1 (retHK P fn (List.map Prod.fst hs) nid L r h') hL)
        · rename_i τ h1
          obtain ⟨L, hL⟩ := kRetH_ok h
          exact hcallS_of hf hb hc.1.1.1 hc.1.1.2 (heapLtB_ok _ hc.1.2) (refsLtsB_ok _ hc.2) ((evC_ok hW hP hH hmo f).1 _ _ _ _ _ _ h1 (retHK P fn (List.map Prod.fst hs) nid L r h') hL)
        · cases h
      · cases h
    · cases h
  · cases h
end
end Go.Pm
