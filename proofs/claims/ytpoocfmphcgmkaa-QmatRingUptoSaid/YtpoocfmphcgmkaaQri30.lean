/-
  A part of the proof.
-/
import Derived.Test.YtpoocfmphcgmkaaRows
import Derived.WalkKit
import Derived.ProofKit
import Derived.OpenShut
import Derived.JoinedCond
import Derived.Carry
import Derived.Test.YtpoocfmphcgmkaaQri25
import Derived.Test.YtpoocfmphcgmkaaQri24
set_option linter.unusedVariables false
set_option linter.unusedSimpArgs false
set_option linter.unusedSimpArgs false
set_option linter.unusedVariables false
namespace Go.Mt
open Go Go.Pm Go.Proofs Go.RowKit Go.ChangeShapes Go.WideShapes Go.ChangeAt
section
variable {H : Type} {enc : TypeId × Value → H} {w : World} {hd : Bool}
/-- none of these places is frozen -/
def Bare (w : World) (ps : List MemPlace) : Prop := ∀ b off, MemPlace.cell b off ∈ ps → w.frozen? ⟨b, off, none⟩ = false
theorem Bare.left {p q : List MemPlace} (h : Bare w (p ++ q)) : Bare w p := fun b o hm => h b o (List.mem_append_left _ hm)
theorem Bare.right {p q : List MemPlace} (h : Bare w (p ++ q)) : Bare w q := fun b o hm => h b o (List.mem_append_right _ hm)
theorem bulkAll_map (l : List (DataW H × List MemPlace)) : Ytpoocfmphcgmkaa.Rows.uptoBulkAll (l.map (·.1)) = (l.map fun x => Ytpoocfmphcgmkaa.Rows.uptoBulk x.1).sum := by
  induction l with
  | nil => simp [Ytpoocfmphcgmkaa.Rows.uptoBulkAll]
  | cons x l ih => simp [Ytpoocfmphcgmkaa.Rows.uptoBulkAll, ih]
abbrev cx0 (w : World) : Cx := ⟨w, fun _ _ => False, fun _ _ => False, none⟩
/-- cells that stand for these data -/
def RdC (w : World) (ds : List D) (cs : List Value) : Prop := ds.length = cs.length ∧ ∀ (j : Nat) (p : D) (c : Value), ds[j]? = some p → cs[j]? = some c → Rep (cx0 w) p c ∧ c.oneCell' = true
/-- what a reading of type t, of bulk at most K, gives: cells that stand for data, M of them and of how much was read -/
def Giv (K : Nat) (H : Type) (enc : TypeId × Value → H) (w : World) (hd : Bool) (t : TypeId) {α : Type} (f : α → List D) (M : α → Nat → Prop) : Prop :=
  ∀ (fuel : Nat) (cs : List Value) (x : DataW H × List MemPlace), DataW.trod enc Try.prog w 0 (fun _ => true) hd fuel t cs = some x → Bare w x.2 → Ytpoocfmphcgmkaa.Rows.uptoBulk x.1 ≤ K → ∃ v, RdC w (f v) cs ∧ M v (Ytpoocfmphcgmkaa.Rows.uptoBulk x.1)
theorem Giv.mono {K : Nat} {t : TypeId} {α : Type} {f : α → List D} {M N : α → Nat → Prop} (h : Giv K H enc w hd t f M) (hm : ∀ v b, b ≤ K → M v b → N v b) : Giv K H enc w hd t f N := fun fuel cs x h1 h2 h3 => by
  obtain ⟨v, g1, g2⟩ := h fuel cs x h1 h2 h3
  exact ⟨v, g1, hm _ _ h3 g2⟩
theorem cells_get {a : Addr} {n : Nat} {cs : List Value} (h : w.cells? 0 a n = some cs) : cs.length = n ∧ ∀ j (hj : j < cs.length), w.cell? (a.add j) = some cs[j] := by
  unfold World.cells? at h
  rw [if_pos (Nat.zero_le _)] at h
  have hl : cs.length = n := by simpa using mapM_some_length h
  refine ⟨hl, fun j hj => ?_⟩
  have := mapM_some_get h j j (by rw [List.getElem?_range (by omega)])
  rw [this, List.getElem?_eq_getElem hj]
theorem sum_ge {l : List Nat} {k : Nat} (h : ∀ x ∈ l, k ≤ x) : l.length * k ≤ l.sum := by
  induction l with
  | nil => simp
  | cons x l ih =>
    have h1 := h x (List.mem_cons_self ..)
    have h2 := ih (fun y hy => h y (List.mem_cons_of_mem _ hy))
    rw [List.length_cons, List.sum_cons, Nat.add_mul, Nat.one_mul]
    omega
theorem mem_le_sum {l : List Nat} {x : Nat} (h : x ∈ l) : x ≤ l.sum := by
  induction l with
  | nil => simp at h
  | cons y l ih =>
    rw [List.sum_cons]
    rcases List.mem_cons.1 h with rfl | h
    · omega
    · have := ih h; omega
theorem exists_list {α : Type} {n : Nat} (P : Nat → α → Prop) (h : ∀ i, i < n → ∃ x, P i x) : ∃ l : List α, l.length = n ∧ ∀ i (hi : i < l.length), P i l[i] := by
  induction n with
  | zero => exact ⟨[], rfl, fun i hi => absurd hi (by simp)⟩
  | succ n ih =>
    obtain ⟨l, hl, hp⟩ := ih (fun i hi => h i (by omega))
    obtain ⟨x, hx⟩ := h n (by omega)
    refine ⟨l ++ [x], by simp [hl], fun i hi => ?_⟩
    by_cases hin : i < l.length
    · rw [List.getElem_append_left hin]; exact hp i hin
    · rw [List.getElem_append_right (by omega)]
      have : i = n := by simp at hi; omega
      subst this
      simpa [hl] using hx
theorem spot_none {a : Addr} {k : Nat} {csi : List Value} (h : w.cells? 0 (a.add (0 * k)) k = some csi) (hk : 0 < k) : a.spot = none := by
  obtain ⟨h2, h3⟩ := cells_get h
  have h4 := h3 0 (by omega)
  have h5 : ((a.add (0 * k)).add 0).spot = a.spot := by
    unfold Addr.add
    simp
  have hs : ((a.add (0 * k)).add 0).spot = none := by
    unfold World.cell? at h4
    split at h4
    · split at h4
      · simp at h4
      · rename_i hq; simpa using hq
    · simp at h4
  rw [← h5]; exact hs
/-- a slice of what is read so -/
theorem giv_slice {t e : TypeId} {α : Type} {f : α → List D} {k : Nat} {M : α → Nat → Prop} (ht : Try.prog.underlying t = some (.slice e)) (hs : Try.prog.cellsOf e = k) (hp : 0 < k) (hk : ∀ v, (f v).length = k) {K : Nat} (hr : Giv K H enc w hd e f M) :
    ∀ (fuel : Nat) (cs : List Value) (x : DataW H × List MemPlace), DataW.trod enc Try.prog w 0 (fun _ => true) hd fuel t cs = some x → Bare w x.2 → Ytpoocfmphcgmkaa.Rows.uptoBulk x.1 ≤ K →
      ∃ (vs : List α) (bs : List Nat), RdC w [.sl (vs.map f)] cs ∧ bs.length = vs.length ∧ (∀ i (h1 : i < vs.length) (h2 : i < bs.length), M vs[i] bs[i]) ∧ bs.sum + 1 ≤ Ytpoocfmphcgmkaa.Rows.uptoBulk x.1 := fun fuel cs x h hb hK => by
  rcases DataW.trod_slice ht h with ⟨rfl, rfl⟩ | ⟨a, n, c, elems, rest, m, _, rfl, rfl, _, hnc, hcm, hel, hget, hsp, _⟩
  · refine ⟨[], [], ⟨rfl, fun j p c h1 h2 => ?_⟩, rfl, fun i h1 => absurd h1 (by simp), by simp [Ytpoocfmphcgmkaa.Rows.uptoBulk]⟩
    cases j with
    | zero => cases h1; cases h2; exact ⟨.nil, rfl⟩
    | succ j => cases h1
  · rw [hs] at hget hb hsp
    have hsum : (elems.map fun x => Ytpoocfmphcgmkaa.Rows.uptoBulk x.1).sum + 1 ≤ Ytpoocfmphcgmkaa.Rows.uptoBulk (.slice (elems.map (·.1)) (rest.map (·.1)) : DataW H) := by
      simp only [Ytpoocfmphcgmkaa.Rows.uptoBulk, bulkAll_map]
      omega
    have hread : ∀ i, i < n → ∃ (v : α) (csi : List Value), w.cells? 0 (a.add (i * k)) k = some csi ∧ (∃ hi : i < elems.length, RdC w (f v) csi ∧ M v (Ytpoocfmphcgmkaa.Rows.uptoBulk elems[i].1)) := fun i hi => by
      have h1 := hget i hi
      rw [List.getElem?_eq_getElem (by omega)] at h1
      obtain ⟨csi, h2, h3⟩ := Option.bind_eq_some_iff.1 h1
      have hbi : Bare w elems[i].2 := fun b o hm => hb b o (List.mem_append_right _ (List.mem_flatMap.2 ⟨elems[i], List.mem_append_left _ (List.getElem_mem _), hm⟩))
      have hKi : Ytpoocfmphcgmkaa.Rows.uptoBulk elems[i].1 ≤ K := Nat.le_trans (mem_le_sum (List.mem_map.2 ⟨elems[i], List.getElem_mem _, rfl⟩)) (Nat.le_trans (Nat.le_of_succ_le hsum) hK)
      obtain ⟨v, h4, h5⟩ := hr m csi _ h3 hbi hKi
      exact ⟨v, csi, h2, by omega, h4, h5⟩
    obtain ⟨vs, hvl, hvs⟩ := exists_list (α := α) (n := n) _ hread
    refine ⟨vs, elems.map fun x => Ytpoocfmphcgmkaa.Rows.uptoBulk x.1, ⟨rfl, fun j p c' h1 h2 => ?_⟩, by rw [List.length_map, hel, hvl], fun i h1 h2 => ?_, hsum⟩
    · cases j with
      | succ j => cases h1
      | zero =>
        cases h1
        cases h2
        refine ⟨?_, rfl⟩
        by_cases hn0 : n = 0
        · subst hn0
          obtain rfl : vs = [] := List.length_eq_zero_iff.1 hvl
          exact .emp (some a) c hcm
        · have hspot : a.spot = none := by
            obtain ⟨v, csi, h1, _⟩ := hread 0 (by omega)
            exact spot_none h1 hp
          obtain ⟨b, o, q⟩ := a
          cases hspot
          have hlv : (vs.map f).length = n := by rw [List.length_map, hvl]
          have hcl : ∀ (i j : Nat) (e : List D) (p : D), (vs.map f)[i]? = some e → e[j]? = some p → ∃ c, w.cell? ⟨b, o + i * k + j, none⟩ = some c ∧ w.frozen? ⟨b, o + i * k + j, none⟩ = false ∧ Rep (cx0 w) p c ∧ c.oneCell' = true := fun i j e p h1 h2 => by
            obtain ⟨hi, h3⟩ := List.getElem?_eq_some_iff.1 h1
            rw [List.getElem_map] at h3
            rw [List.length_map] at hi
            obtain ⟨csi, g1, g2, ⟨g3, g4⟩, g5⟩ := hvs i hi
            rw [h3] at g3 g4
            obtain ⟨g6, g7⟩ := cells_get g1
            have hj := (List.getElem?_eq_some_iff.1 h2).1
            have hjc : j < csi.length := by omega
            have hadd : ((⟨b, o, none⟩ : Addr).add (i * k)).add j = ⟨b, o + i * k + j, none⟩ := by
              unfold Addr.add
              by_cases g1 : i * k = 0
              · rw [if_pos g1, g1]
                by_cases g2 : j = 0
                · rw [if_pos g2, g2]; rfl
                · rw [if_neg g2]; rfl
              · rw [if_neg g1]
                by_cases g2 : j = 0
                · rw [if_pos g2, g2]; rfl
                · rw [if_neg g2]
            have g8 := g7 j hjc
            rw [hadd] at g8
            obtain ⟨g9, g10⟩ := g4 j p csi[j] h2 (List.getElem?_eq_getElem hjc)
            refine ⟨_, g8, hb b _ (List.mem_append_left _ ?_), g9, g10⟩
            unfold MemPlace.row
            refine List.mem_map.2 ⟨i * k + j, List.mem_range.2 ?_, by simp [Nat.add_assoc]⟩
            have k3 : i + 1 ≤ elems.length + rest.length := by omega
            have k4 := Nat.mul_le_mul_right k k3
            rw [Nat.add_mul, Nat.one_mul] at k4
            omega
          have := Rep.sl (C := cx0 w) (vs.map f) k c b o (fun i j => (w.cell? ⟨b, o + i * k + j, none⟩).getD (.bool false)) (by omega) hcm (fun e he => by
            obtain ⟨v, _, rfl⟩ := List.mem_map.1 he; exact hk v) (fun i j e p h1 h2 => by
            obtain ⟨c, g1, g2, g3, g4⟩ := hcl i j e p h1 h2
            rw [g1]
            exact ⟨⟨g1, g2⟩, g4, fun h => h, fun h => h⟩) (fun i j e p h1 h2 => by
            obtain ⟨c, g1, g2, g3, g4⟩ := hcl i j e p h1 h2
            rw [g1]
            exact g3)
          rw [hlv] at this
          exact this
    · obtain ⟨csi, _, hi2, h3, h4⟩ := hvs i (by omega)
      rw [List.getElem_map]
      exact h4
end
end Go.Mt
/-
  A part of the proof.
-/
set_option linter.unusedSimpArgs false
set_option linter.unusedVariables false
namespace Go.Mt
open Go Go.Pm Go.Proofs Go.RowKit Go.ChangeShapes Go.WideShapes Go.ChangeAt
section
variable {H : Type} {enc : TypeId × Value → H} {w : World} {hd : Bool}
theorem RdC.append {ds es : List D} {cs vs : List Value} (h : RdC w ds cs) (k : RdC w es vs) : RdC w (ds ++ es) (cs ++ vs) := by
  refine ⟨by rw [List.length_append, List.length_append, h.1, k.1], fun j p c h1 h2 => ?_⟩
  by_cases hj : j < ds.length
  · rw [List.getElem?_append_left hj] at h1
    rw [List.getElem?_append_left (by rw [← h.1]; exact hj)] at h2
    exact h.2 j p c h1 h2
  · rw [List.getElem?_append_right (by omega)] at h1
    rw [List.getElem?_append_right (by rw [← h.1]; omega), ← h.1] at h2
    exact k.2 _ p c h1 h2
/-- a list of what is read so -/
def ManyM {α : Type} (M : α → Nat → Prop) (vs : List α) (b : Nat) : Prop := ∃ bs : List Nat, bs.length = vs.length ∧ (∀ i (h1 : i < vs.length) (h2 : i < bs.length), M vs[i] bs[i]) ∧ bs.sum + 1 ≤ b
theorem giv_list {t e : TypeId} {α : Type} {f : α → List D} {k : Nat} {M : α → Nat → Prop} (ht : Try.prog.underlying t = some (.slice e)) (hs : Try.prog.cellsOf e = k) (hp : 0 < k) (hk : ∀ v, (f v).length = k) {K : Nat} (hr : Giv K H enc w hd e f M) :
    Giv K H enc w hd t (fun vs => [.sl (vs.map f)]) (ManyM M) := fun fuel cs x h hb hK => by
  obtain ⟨vs, bs, h1, h2, h3, h4⟩ := giv_slice ht hs hp hk hr fuel cs x h hb hK
  exact ⟨vs, h1, bs, h2, h3, h4⟩
theorem ManyM.len {α : Type} {M : α → Nat → Prop} {vs : List α} {b : Nat} (h : ManyM M vs b) (h1 : ∀ v b, M v b → 1 ≤ b) : vs.length + 1 ≤ b := by
  obtain ⟨bs, h2, h3, h4⟩ := h
  have := sum_ge (l := bs) (k := 1) (fun x hx => by
    obtain ⟨i, hi, rfl⟩ := List.getElem_of_mem hx
    exact h1 _ _ (h3 i (by omega) hi))
  omega
theorem ManyM.mem {α : Type} {M : α → Nat → Prop} {vs : List α} {b : Nat} (h : ManyM M vs b) : ∀ v ∈ vs, ∃ b', b' + 1 ≤ b ∧ M v b' := fun v hv => by
  obtain ⟨bs, h2, h3, h4⟩ := h
  obtain ⟨i, hi, rfl⟩ := List.getElem_of_mem hv
  refine ⟨bs[i]'(by omega), ?_, h3 i hi (by omega)⟩
  have := mem_le_sum (List.getElem_mem (l := bs) (n := i) (by omega))
  omega
/-- sums over a list -/
theorem ManyM.sum {α : Type} {M : α → Nat → Prop} {vs : List α} {b : Nat} (h : ManyM M vs b) (g : α → Nat) (hg : ∀ v b, M v b → g v ≤ b) : (vs.map g).sum + 1 ≤ b := by
  obtain ⟨bs, h2, h3, h4⟩ := h
  have key : ∀ (vs : List α) (bs : List Nat), bs.length = vs.length → (∀ i (h1 : i < vs.length) (h2 : i < bs.length), M vs[i] bs[i]) → (vs.map g).sum ≤ bs.sum := by
    intro vs
    induction vs with
    | nil => intro bs _ _; simp
    | cons v vs ih =>
      intro bs hl hM
      cases bs with
      | nil => simp at hl
      | cons x bs =>
        have h0 := hg _ _ (hM 0 (by simp) (by simp))
        have h1 := ih bs (by simpa using hl) (fun i h1 h2 => hM (i + 1) (by simpa using h1) (by simpa using h2))
        simp only [List.map_cons, List.sum_cons, List.getElem_cons_zero] at h0 ⊢
        omega
  have := key vs bs h2 h3
  omega
theorem giv_struct2 {t : TypeId} {f0 f1 : Field} {α β : Type} {F0 : α → List D} {F1 : β → List D} {M0 : α → Nat → Prop} {M1 : β → Nat → Prop} {K : Nat} (ht : Try.prog.underlying t = some (.struct #[f0, f1])) (h0 : f0.offset = 0)
    (h1 : f1.offset = Try.prog.cellsOf f0.type) (hc : Try.prog.cellsOf t = Try.prog.cellsOf f0.type + Try.prog.cellsOf f1.type) (g0 : Giv K H enc w hd f0.type F0 M0) (g1 : Giv K H enc w hd f1.type F1 M1) :
    Giv K H enc w hd t (fun p : α × β => F0 p.1 ++ F1 p.2) (fun p b => ∃ b0 b1, M0 p.1 b0 ∧ M1 p.2 b1 ∧ b0 + b1 + 1 ≤ b) := fun fuel cs x h hb hK => by
  obtain ⟨y0, y1, n, rfl, hl, k0, k1⟩ := trod_struct2 ht h
  have hbk : Ytpoocfmphcgmkaa.Rows.uptoBulk (.agg [y0.1, y1.1] : DataW H) = Ytpoocfmphcgmkaa.Rows.uptoBulk y0.1 + Ytpoocfmphcgmkaa.Rows.uptoBulk y1.1 + 1 := by simp [Ytpoocfmphcgmkaa.Rows.uptoBulk, Ytpoocfmphcgmkaa.Rows.uptoBulkAll]
  rw [hbk] at hK
  obtain ⟨v0, r0, m0⟩ := g0 n _ y0 k0 hb.left (by omega)
  obtain ⟨v1, r1, m1⟩ := g1 n _ y1 k1 hb.right (by omega)
  refine ⟨(v0, v1), ?_, _, _, m0, m1, by rw [hbk]; omega⟩
  have h2 := r0.append r1
  have e : (cs.drop f0.offset).take (Try.prog.cellsOf f0.type) ++ (cs.drop f1.offset).take (Try.prog.cellsOf f1.type) = cs := by
    rw [h0, h1, List.drop_zero]
    have : (cs.drop (Try.prog.cellsOf f0.type)).take (Try.prog.cellsOf f1.type) = cs.drop (Try.prog.cellsOf f0.type) := List.take_of_length_le (by rw [List.length_drop]; omega)
    rw [this, List.take_append_drop]
  rw [e] at h2
  exact h2
theorem RdC.one {p : D} {c : Value} (h : Rep (cx0 w) p c) (h1 : c.oneCell' = true) : RdC w [p] [c] := ⟨rfl, fun j p c a b => by
  cases j with
  | zero => cases a; cases b; exact ⟨h, h1⟩
  | succ j => cases a⟩
theorem giv_u32 (K : Nat) : Giv K H enc w hd 80 (fun n : Nat => [ud n]) (fun n b => n < 4294967296 ∧ 1 ≤ b) := fun fuel cs x h hb _ => by
  obtain ⟨n, rfl, rfl, hw⟩ := DataW.trod_int Try.underlying80 h
  obtain ⟨h1, h2⟩ := bounds_u32 hw
  refine ⟨n.toNat, ?_, by omega, by simp [Ytpoocfmphcgmkaa.Rows.uptoBulk]⟩
  have e : ((n.toNat : Nat) : Int) = n := by omega
  show RdC w [.v (.int .u32 ((n.toNat : Nat) : Int))] _
  rw [e]
  exact RdC.one (.v _) rfl
theorem giv_bool (K : Nat) : Giv K H enc w hd 4 (fun b : Bool => [.v (.bool b)]) (fun _ b => 1 ≤ b) := fun fuel cs x h hb _ => by
  obtain ⟨b, rfl, hx⟩ := DataW.trod_bool Try.underlying4 h
  exact ⟨b, RdC.one (.v _) rfl, by rw [hx]; simp [Ytpoocfmphcgmkaa.Rows.uptoBulk]⟩
theorem giv_nat {K : Nat} (hK : K < 1099511627776) : Giv K H enc w hd 23 (fun l : List Nat => [.sl (les l)]) (fun l b => Raw l ∧ l.length + 1 ≤ b) :=
  (giv_list (k := 1) Try.underlying23 (by kernel_rfl) (by decide) (fun _ => rfl) (giv_u32 K)).mono fun l b hb h => by
    have h1 := h.len (fun _ _ h => h.2)
    refine ⟨⟨fun x hx => ?_, by omega⟩, h1⟩
    obtain ⟨_, _, h2, _⟩ := h.mem x hx
    exact h2
theorem giv_int {K : Nat} (hK : K < 1099511627776) : Giv K H enc w hd 25 zel (fun p b => Rz p ∧ p.2.length + 3 ≤ b) :=
  (giv_struct2 (F0 := fun b : Bool => [.v (.bool b)]) Try.underlying25 rfl (by kernel_rfl) (by kernel_rfl) (giv_bool K) (giv_nat hK)).mono fun p b hb ⟨b0, b1, h0, h1, h2⟩ => ⟨h1.1, by have := h1.2; omega⟩
/-- how long a row is, and what is in it -/
def RowM (r : List ZR) (b : Nat) : Prop := (∀ p ∈ r, Rz p ∧ p.2.length + 4 ≤ b) ∧ 3 * r.length + 1 ≤ b
theorem giv_row {K : Nat} (hK : K < 1099511627776) : Giv K H enc w hd 46 rel RowM :=
  (giv_list (k := 2) Try.underlying46 (by kernel_rfl) (by decide) (fun _ => rfl) (giv_int hK)).mono fun r b hb h => by
    refine ⟨fun p hp => ?_, ?_⟩
    · obtain ⟨b', h1, h2, h3⟩ := h.mem p hp
      exact ⟨h2, by omega⟩
    · have := h.sum (fun _ => 3) (fun v b h => by have := h.2; omega)
      rw [List.map_const', List.sum_replicate_nat] at this
      omega
def MatM (m : MR) (b : Nat) : Prop := (Rz m.1 ∧ m.1.2.length + 1 ≤ b) ∧ (∀ r ∈ m.2, ∀ p ∈ r, Rz p ∧ p.2.length + 1 ≤ b) ∧ m.2.length + 1 ≤ b ∧ (∀ r ∈ m.2, r.length + 1 ≤ b) ∧ m.2.flatten.length + 1 ≤ b
theorem giv_mat {K : Nat} (hK : K < 1099511627776) : Giv K H enc w hd 28 mel MatM :=
  (giv_struct2 (F0 := zel) (F1 := fun rows => [.sl (rws rows)]) Try.underlying28 rfl (by kernel_rfl) (by kernel_rfl) (giv_int hK) (giv_list (k := 1) Try.underlying26 (by kernel_rfl) (by decide) (fun _ => rfl) (giv_row hK))).mono fun m b hb ⟨b0, b1, h0, h1, h2⟩ => by
    have k1 := h1.len (fun _ _ h => by have := h.2; omega)
    have k2 := h1.sum List.length (fun r b h => by have := h.2; omega)
    rw [← List.length_flatten] at k2
    refine ⟨⟨h0.1, by have := h0.2; omega⟩, fun r hr p hp => ?_, by omega, fun r hr => ?_, by omega⟩
    · obtain ⟨b', g1, g2⟩ := h1.mem r hr
      obtain ⟨g3, g4⟩ := g2.1 p hp
      exact ⟨g3, by omega⟩
    · obtain ⟨b', g1, g2⟩ := h1.mem r hr
      have := g2.2
      omega
def RatM (x : QR) (b : Nat) : Prop := Rq x ∧ x.1.2.length + 1 ≤ b ∧ x.2.2.length + 1 ≤ b
/-- an argument that is a struct: its value, and the data that it stands for -/
theorem RdC.agg {ds : List D} {vs : Array Value} (h : RdC w ds vs.toList) : Rep (cx0 w) (.agg ds) (.agg vs) :=
  .agg ds vs (by rw [h.1]; simp) fun j p v h1 h2 => (h.2 j p v h1 (by simpa using h2)).1
theorem RdC.slice {x : D} {v : Value} (h : RdC w [x] [v]) : Rep (cx0 w) x v := (h.2 0 x v rfl rfl).1
end
theorem trodAll_stays {H : Type} {enc : TypeId × Value → H} {P : Program} (hl : laidOutB P = true) {W W' : World} (hE : Below W.heap.size W W') : ∀ {ts : List TypeId} {vs : List Value} {ds : List (DataW H)} {ps : List MemPlace},
    (∀ t ∈ ts, P.readableRec t = true ∧ t < P.types.size) → DataW.TrodAll enc P W 0 (fun _ => true) true ts vs ds ps → (∀ x ∈ ps, x.block < W.heap.size) → ∀ sp : Nat → Bool, (∀ p ∈ ps, sp p.block = true) → DataW.TrodAll enc P W' 0 sp true ts vs ds ps
  | [], _, _, _, _, h, _, _, _ => by
    obtain ⟨rfl, rfl, rfl⟩ := trodAll_nil h
    rfl
  | t :: ts, _, _, _, hr, h, hlt, sp, hsp => by
    obtain ⟨v, vs, d, ds, p, q, rfl, rfl, rfl, h0, h1⟩ := trodAll_cons h
    obtain ⟨r1, r2⟩ := hr t (List.mem_cons_self ..)
    refine ⟨p, q, WideElems.Trod_stays hl r1 r2 h0 (fun x hx => Below.same hE (hlt x (List.mem_append_left _ hx))) (fun x hx => hsp x (List.mem_append_left _ hx)), ?_, rfl⟩
    exact trodAll_stays hl hE (fun t ht => hr t (List.mem_cons_of_mem _ ht)) h1 (fun x hx => hlt x (List.mem_append_right _ hx)) sp (fun x hx => hsp x (List.mem_append_right _ hx))
/-- a law that answers true, as the statement has it -/
theorem law_post {H : Type} {enc : TypeId × Value → H} {P : Program} {fid : FuncId} {f : Func} {s : ChangeSpec} {W : World} {args : Array Value} {ds gs : List (DataW H)} {before : List MemPlace} {xs : List PV} {tb : TypeId}
    (hW : DataW.Whole enc P f.params.toList s.vars false W args.toList ds gs before) (hvs : s.vars = []) (hl : laidOutB P = true) (hrd : ∀ t ∈ f.params.toList, P.readableRec t = true ∧ t < P.types.size)
    (hb : P.underlying tb = some .bool) (hrt : f.resultTypes = #[tb]) (hres : ∀ H (ds : List (DataW H)), ds.length = args.size → (s.fn H ds).results = [.lit (.bool true)] ∧ (s.fn H ds).args = ds ∧ (s.fn H ds).vars = [])
    (hc : PCall P fid xs (.one (.d (.v (.bool true))))) (hn : args.size = xs.length) (hrep : ∀ (j : Nat) (p : PV) (v : Value), xs[j]? = some p → args[j]? = some v → PRep (cx0 W) (fun _ => none) (fun _ => .no) (fun _ => False) p v) :
    Calls P fid args W fun e W' => ∃ v, e = .returned v ∧ s.post enc P f false true false false W args v W' := by
  have hW' := hW
  obtain ⟨p, q, hA, hV, rfl, hfz, hnd⟩ := hW
  have hlt := hW'.lt
  rw [hvs] at hV
  obtain ⟨rfl, rfl⟩ := trodVars_none hV
  have hdl : ds.length = args.size := by
    have key : ∀ (ts : List TypeId) (vs : List Value) (ds : List (DataW H)) (ps : List MemPlace), DataW.TrodAll enc P W 0 (fun _ => true) true ts vs ds ps → ds.length = vs.length := by
      intro ts
      induction ts with
      | nil => intro vs ds ps h; obtain ⟨rfl, rfl, rfl⟩ := trodAll_nil h; rfl
      | cons t ts ih =>
        intro vs ds ps h
        obtain ⟨v, vs, d, ds, p, q, rfl, rfl, rfl, h0, h1⟩ := trodAll_cons h
        have := ih _ _ _ h1
        simp [this]
    have := key _ _ _ _ hA
    simpa using this
  obtain ⟨e1, e2, e3⟩ := hres H ds hdl
  refine (hc.calls (fun _ _ => False) W args (fun _ _ h => h.elim) hn hrep).mono fun e w' ⟨v, he, hbl, ls, vs, hv, hall, _, _⟩ => ⟨v, he, ?_⟩
  have hv2 : v = .bool true := by
    cases ls with
    | nil => cases vs <;> exact hall.elim
    | cons l ls =>
      cases vs with
      | nil => exact hall.elim
      | cons x vs =>
        obtain ⟨⟨_, hx⟩, _⟩ := hall
        cases hx
        rw [hv]; rfl
  subst hv2
  have hp : ∀ x ∈ p, x.block < W.heap.size := fun x hx => hlt x (by simpa using hx)
  have hst := trodAll_stays (P := P) hl hbl hrd hA hp
  have htd := hst (fun _ => true) (fun _ _ => rfl)
  have hrs : ∀ (b : Nat) (sp : Nat → Bool) (hd : Bool), DataW.TrodAll enc P w' b sp hd f.resultTypes.toList ((Value.bool true).resultList f.resultTypes.size) (s.fn H (ds ++ [])).results [] := fun b sp hd => by
    rw [List.append_nil, e1, hrt]
    exact trodAll_cons_mk (shut_bool hb _) trodAll_mk0
  refine ⟨ds, [], _, [], p, [], hW', hrs _ _ _, ?_, ?_, hbl.frame _, fun _ => ⟨?_, (s.fn H (ds ++ [])).results ++ (s.fn H (ds ++ [])).args, (s.fn H (ds ++ [])).vars, ([] ++ p) ++ [], ⟨[] ++ p, [], trodAll_append ?_ (hrs _ _ _), ?_, rfl, fun b off hx => ?_, fun ha => by cases ha⟩, fun x hx _ => by simpa using hx⟩⟩
  · rw [List.append_nil, e2]
    exact hst _ (fun x hx => decide_eq_true (hp x hx))
  · rw [List.append_nil, e3, hvs]; rfl
  · exact ok_one hrt rfl (okWide_bool_mk hb _)
  · rw [List.append_nil, e2]; exact htd
  · rw [List.append_nil, e3, hvs]; rfl
  · have hx2 : MemPlace.cell b off ∈ p := by simpa using hx
    rw [Below.frozen hbl (show (⟨b, off, none⟩ : Addr).block < W.heap.size from hp _ hx2)]
    exact hfz b off (by simpa using hx2)
end Go.Mt
