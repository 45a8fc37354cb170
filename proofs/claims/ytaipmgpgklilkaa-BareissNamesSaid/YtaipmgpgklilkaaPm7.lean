/-
  The pure machine, part 8: parts of slices, stores, literals, appends.
-/
import Derived.Test.YtaipmgpgklilkaaPm6
set_option linter.unusedSimpArgs false
set_option linter.unusedVariables false
namespace Go.Pm
open Go.RowKit

section
variable {P : Program} {E : Env} {loc : Locs} {kn : Nat → Prop} {w : World} {a : Act} {σ : St} {nid : Nat} {K : Kt} {o : Oper}

theorem bound_rep {C : Cx} {hg : Nat → Option Ob} {t : Slots} (hs : SlotsOk C hg loc kn t a) {d z : Int} {x : Option Operand} (h : bound d (x.map (ev t)) = some z) : (x = none ∧ z = d) ∨ ∃ y k, x = some y ∧ a.eval y = .int k z := by
  cases x with
  | none => left; simp [bound] at h; exact ⟨rfl, h.symm⟩
  | some y =>
    right
    simp only [Option.map_some] at h
    have hy := evRep hs y
    generalize ev t y = p at h hy
    unfold bound at h
    split at h
    · rename_i e; cases e
    · rename_i k z' e
      cases e
      cases h
      exact ⟨y, k, rfl, hy.val⟩
    · cases h

theorem run_bound {y : Value} {z : Int} {k : IntKind} {c : Nat} {code : BoundsCode} (e : y = .int k z) (g0 : 0 ≤ z) (g1 : z ≤ (c : Int)) : (Instr.sliceBound y c code).run P w = .ok z.toNat w := by
  simp [Instr.sliceBound, e, asIntOf, g0, g1]
/-- an operand that may be missing -/
def optIs (x : Option Value) (d z : Int) : Prop := (x = none ∧ z = d) ∨ ∃ k, x = some (.int k z)
theorem run_bounds {lo hi mx : Option Value} {l h m : Int} {n c : Nat} (hl : optIs lo 0 l) (hh : optIs hi n h) (hm : optIs mx h m) (hmh : mx.isSome = true → hi.isSome = true) (h0 : 0 ≤ l) (h1 : l ≤ h) (h2 : h ≤ m) (h3 : m ≤ n) (hc : n ≤ c) :
    ∃ mm : Nat, h.toNat ≤ mm ∧ mm ≤ c ∧ (Instr.sliceBounds true n c lo hi mx).run P w = .ok (l.toNat, h.toNat, mm) w := by
  rcases hm with ⟨rfl, hm2⟩ | ⟨k3, rfl⟩
  · refine ⟨c, by omega, Nat.le_refl _, ?_⟩
    rcases hh with ⟨rfl, hh2⟩ | ⟨k2, rfl⟩ <;> rcases hl with ⟨rfl, hl2⟩ | ⟨k1, rfl⟩
    · simp [Instr.sliceBounds, hh2, hl2]
    · have s1 := run_bound (P := P) (w := w) (k := k1) (c := n) (code := .sliceB) rfl h0 (by omega)
      simp [Instr.sliceBounds, hh2, s1]
    · have s2 := run_bound (P := P) (w := w) (k := k2) (c := c) (code := .sliceAcap) rfl (show 0 ≤ h by omega) (by omega)
      simp [Instr.sliceBounds, hl2, s2]
    · have s1 := run_bound (P := P) (w := w) (k := k1) (c := h.toNat) (code := .sliceB) rfl h0 (by omega)
      have s2 := run_bound (P := P) (w := w) (k := k2) (c := c) (code := .sliceAcap) rfl (show 0 ≤ h by omega) (by omega)
      simp [Instr.sliceBounds, s1, s2]
  · refine ⟨m.toNat, by omega, by omega, ?_⟩
    rcases hh with ⟨rfl, hh2⟩ | ⟨k2, rfl⟩
    · exact absurd (hmh rfl) (by simp)
    · have s3 := run_bound (P := P) (w := w) (k := k3) (c := c) (code := .slice3Acap) rfl (show 0 ≤ m by omega) (by omega)
      have s2 := run_bound (P := P) (w := w) (k := k2) (c := m.toNat) (code := .slice3B) rfl (show 0 ≤ h by omega) (by omega)
      rcases hl with ⟨rfl, hl2⟩ | ⟨k1, rfl⟩
      · simp [Instr.sliceBounds, hl2, s2, s3]
      · have s1 := run_bound (P := P) (w := w) (k := k1) (c := h.toNat) (code := .slice3C) rfl h0 (by omega)
        simp [Instr.sliceBounds, s1, s2, s3]

theorem out_slice {t : TypeId} {x : Operand} {lo hi mx : Option Operand} (ho : o.op = .slice t x lo hi mx) (h : vcOp P o nid σ K) (hm : MC E (hget σ.h) loc kn w) (hs : SlotsOk (cxOf E (hget σ.h) loc w) (hget σ.h) loc kn σ.t a) : Out P E o σ nid loc kn w a K := by
  unfold vcOp at h
  simp only [ho] at h
  obtain ⟨T, hT, h⟩ := got_spec h
  obtain ⟨n, hn, h⟩ := got_spec h
  obtain ⟨l, hl, h⟩ := got_spec h
  obtain ⟨hh, hhi, h⟩ := got_spec h
  obtain ⟨m, hmx, h⟩ := got_spec h
  obtain ⟨E2, hE, h⟩ := got_spec h
  obtain ⟨⟨hslc, h0, hlh, hhm, hmn, hmh⟩, h⟩ := h
  have hu := slc_spec hT hslc
  have hszr := size_run (w := w) hE
  have opt : ∀ {d z : Int} {y : Option Operand}, bound d (y.map (ev σ.t)) = some z → optIs (y.map a.eval) d z := fun {d z y} g => by
    rcases bound_rep hs g with ⟨rfl, g2⟩ | ⟨y', k, rfl, g2⟩
    · exact .inl ⟨rfl, g2⟩
    · exact .inr ⟨k, by simp [g2]⟩
  have main : ∀ (ad : Option Addr) (c : Nat), a.eval x = .slice ad n c → n ≤ c → ∃ mm, hh.toNat ≤ mm ∧ mm ≤ c ∧
      (execOp a.eval o).run P w = .ok (.value (.slice (if mm = l.toNat then ad else ad.map (·.add (l.toNat * E2.size))) (hh.toNat - l.toNat) (mm - l.toNat))) w := fun ad c e hc => by
    obtain ⟨mm, g1, g2, g3⟩ := run_bounds (P := P) (w := w) (opt hl) (opt hhi) (opt hmx) (by simpa using hmh) h0 hlh hhm hmn hc
    exact ⟨mm, g1, g2, by unfold execOp; simp [ho, Instr.sliceAt, Instr.slice, run_underlying hu, e, g3, hszr]⟩
  split at h
  · rename_i id ver he
    obtain ⟨hsz1, hfin⟩ := h
    have hx := evRep hs x
    rw [he] at hx hn
    simp only [lenOf] at hn
    split at hn
    · rename_i tt hob
      split at hn
      · rename_i hver
        cases hn
        obtain ⟨lo', rl, hloc, hTi⟩ := hm.tab hob
        generalize hav : a.eval x = av at hx
        cases hx with
        | st hk ho1 hv hh1 =>
          have hh1 := hh1 tt hob hver lo' rl hloc
          have hout := hTi.out
          cases lo' with
          | tb a b => exact hout.elim
          | no =>
            have hout : tt.out = [] := hout
            have e3 : tt.out.length = 0 := by rw [hout]; rfl
            obtain ⟨mm, g1, g2, hrun⟩ := main none 0 (by rw [hav, hh1, e3]; rfl) (by omega)
            have z1 : l.toNat = 0 := by omega
            have z2 : hh.toNat = 0 := by omega
            have z3 : mm = 0 := by omega
            rw [z1, z2, z3] at hrun
            refine Out.quiet hm hfin hrun ?_
            rw [z1, z2]
            refine .tv hk rfl hv (fun T' h' _ lo2 rl2 hl2 => ?_)
            rw [hloc] at hl2
            cases hl2
            exact ⟨by omega, rfl, rfl⟩
          | pl b cap =>
            obtain ⟨c, c1, c2, c3, c4, c5⟩ := hout
            obtain ⟨mm, g1, g2, hrun⟩ := main (some ⟨b, 0, none⟩) cap (by rw [hav, hh1]; rfl) c3
            refine Out.quiet hm hfin hrun (.tv hk rfl hv (fun T' h' _ lo2 rl2 hl2 => ?_))
            rw [hob] at h'
            cases h'
            rw [hloc] at hl2
            cases hl2
            refine ⟨by omega, if mm = l.toNat then 0 else l.toNat, mm - l.toNat, ?_, fun h1 => ?_, by omega, by omega⟩
            · rw [hsz1, Option.map_some, Addr.add_lit, Nat.mul_one, Nat.zero_add]
              split <;> rfl
            · rw [if_neg (by omega)]
      · cases hn
    · cases hn
  · obtain ⟨es, hes, hsz, hfin⟩ := got_spec h
    obtain ⟨loc', kn', ht', hk'⟩ := Tr.frz hm (f0 (ev σ.t x))
    have hr := d0_rep ht' (els_spec hes) (fun id hi => frz_in id hi) (evRep hs x)
    obtain ⟨ad0, cap0, hx0⟩ := len_rep hm hn (evRep hs x)
    rcases rep_sl_shape hr with ⟨e, e2⟩ | ⟨b, q, c, e, hc, _⟩
    · have hn0 : n = 0 := by rw [e] at hx0; cases hx0; rfl
      obtain ⟨mm, g1, g2, hrun⟩ := main none 0 (by rw [e, hn0]) (by omega)
      have z1 : l.toNat = 0 := by omega
      have z2 : hh.toNat = 0 := by omega
      have z3 : mm = 0 := by omega
      rw [z1, z2, z3] at hrun
      refine ⟨_, _, _, _, loc', kn', w, hfin, .inl hrun, ht', ?_, fun id hi => .inl (hk' id hi)⟩
      rw [z1, z2, e2]
      exact .d .nil
    · have hn0 : n = es.length := by rw [e] at hx0; cases hx0; rfl
      obtain ⟨mm, g1, g2, hrun⟩ := main (some ⟨b, q, none⟩) c (by rw [e, hn0]) (by omega)
      refine ⟨_, _, _, _, loc', kn', w, hfin, .inl hrun, ht', ?_, fun id hi => .inl (hk' id hi)⟩
      have := rep_part (by rw [e] at hr; exact hr) E2.size hsz l.toNat (hh.toNat - l.toNat) mm (by omega) (by omega) g2
      rw [Option.map_some, Addr.add_lit]
      exact .d this

/-! ### stores -/
theorem splice_get {α : Type} {cs new : List α} {off : Nat} (h : off + new.length ≤ cs.length) (j : Nat) : (splice cs off new)[j]? = if off ≤ j ∧ j < off + new.length then new[j - off]? else cs[j]? := by
  unfold splice
  by_cases h1 : j < off
  · rw [if_neg (by omega), List.append_assoc, List.getElem?_append_left (by rw [List.length_take]; omega), List.getElem?_take_of_lt h1]
  · by_cases h2 : j < off + new.length
    · rw [if_pos ⟨by omega, h2⟩, List.append_assoc, List.getElem?_append_right (by rw [List.length_take]; omega), List.length_take, Nat.min_eq_left (by omega), List.getElem?_append_left (by omega)]
    · rw [if_neg (by omega), List.getElem?_append_right (by rw [List.length_append, List.length_take]; omega), List.getElem?_drop, List.length_append, List.length_take, Nat.min_eq_left (by omega)]
      congr 1; omega
theorem splice_len {α : Type} {cs new : List α} {off : Nat} (h : off + new.length ≤ cs.length) : (splice cs off new).length = cs.length := by
  simp only [splice, List.length_append, List.length_take, List.length_drop]; omega

theorem run_store_at {t : TypeId} {T : Ty} (hT : TY P t = some T) {b q : Nat} {c : Array Value} {e : TypeId} (hb : w.heap[b]? = some (.cells c e (0, 0))) {v : Value} (hv : v.cells.size = T.size) (hq : q + T.size ≤ c.size) (h1 : ∀ u ∈ v.cells.toList, u.oneCell' = true) :
    (storeVar t ⟨b, q, none⟩ v).run P w = .ok () (w.setRow b (splice c.toList q v.cells.toList).toArray) := by
  have hst := run_storeCells_at (P := P) b q e v.cells.toList 0 c w hb (by simp; omega) h1
  simp only [Nat.add_zero] at hst
  have hz := size_run (w := w) hT
  simp [storeVar, hz, hv, hst, splice]

theorem out_store {t : TypeId} {x y : Operand} (ho : o.op = .store t x y) (h : vcOp P o nid σ K) (hm : MC E (hget σ.h) loc kn w) (hs : SlotsOk (cxOf E (hget σ.h) loc w) (hget σ.h) loc kn σ.t a) : Out P E o σ nid loc kn w a K := by
  unfold vcOp at h
  simp only [ho] at h
  obtain ⟨T, hT, h⟩ := got_spec h
  unfold storeV at h
  have hx := evRep hs x
  split at h
  · rename_i id ver i off he
    obtain ⟨ob, hob, h⟩ := got_spec h
    rw [he] at hx
    split at h
    · rename_i cs
      obtain ⟨⟨hl1, hl2, h1⟩, h⟩ := h
      obtain ⟨g1, g2⟩ := cells_rep (evRep hs y) (allOne_mem h1)
      obtain ⟨b, cap, c, e0, hl, hblk, hcl, hcs⟩ := hm.box hob
      cases hx with
      | @pr _ _ _ _ _ hk ho1 hv hb ha =>
        have e1 := hb cs hob b cap hl
        have hone : ∀ u ∈ (a.eval y).cells.toList, u.oneCell' = true := fun u hu => by
          obtain ⟨j, hj, rfl⟩ := List.getElem_of_mem hu
          rw [Array.length_toList, g1] at hj
          obtain ⟨u', g3, g4, _⟩ := g2 j _ (List.getElem?_eq_getElem hj)
          rw [Array.getElem?_eq_getElem (by omega)] at g3
          cases g3
          simpa using g4
        have hrun := run_store_at hT hblk (v := a.eval y) (q := off) (by omega) (by omega) hone
        have ht := Tr.setBox hm hob hl (splice cs off (cellsP (ev σ.t y))) (splice c.toList off (a.eval y).cells.toList).toArray (by
            rw [List.size_toArray, splice_len (by rw [Array.length_toList, Array.length_toList]; omega), splice_len (by omega), Array.length_toList, hcl]) (fun j p hj => by
          rw [splice_get (by omega)] at hj
          rw [List.getElem?_toArray, splice_get (by rw [Array.length_toList, Array.length_toList]; omega), Array.length_toList, g1]
          by_cases hc : off ≤ j ∧ j < off + (cellsP (ev σ.t y)).length
          · rw [if_pos hc] at hj ⊢
            rw [Array.getElem?_toList]
            exact g2 _ p hj
          · rw [if_neg hc] at hj ⊢
            rw [Array.getElem?_toList]
            exact hcs j p hj)
        refine ⟨_, _, _, _, _, _, _, h, .inr ⟨?_, rfl⟩, ht, .any _, kn_same (hm.objs _ _ hob).1⟩
        unfold execOp
        simp [ho, e1, Instr.storeAt, Instr.sureAddr, hrun]
    · rename_i ar
      obtain ⟨ds, hds, h⟩ := got_spec h
      obtain ⟨⟨hver, hfz, hl1, hl2, h1, hno⟩, e, he', h⟩ := h
      have hlc : (cellsP (ev σ.t y)).length = T.size := by rw [← (d0s_len hds).1, hl1]
      obtain ⟨g1, g2⟩ := cells_rep (evRep hs y) (allOne_mem h1)
      have hone : ∀ u ∈ (a.eval y).cells.toList, u.oneCell' = true := fun u hu => by
        obtain ⟨j, hj, rfl⟩ := List.getElem_of_mem hu
        rw [Array.length_toList, g1] at hj
        obtain ⟨u', g3, g4, _⟩ := g2 j _ (List.getElem?_eq_getElem hj)
        rw [Array.getElem?_eq_getElem (by omega)] at g3
        cases g3
        simpa using g4
      -- what is stored is frozen first
      obtain ⟨loc', kn', ht', hk'⟩ := Tr.frz hm (f0s (cellsP (ev σ.t y)))
      have hob' : upd (frz (hget σ.h) (f0s (cellsP (ev σ.t y)))) (hget σ.h) id = some (.arr ar) := by rw [frz_not hno, hob]
      have hcell : ∀ (j : Nat) (x : D), ds[j]? = some x → Rep (cxOf E (upd (frz (hget σ.h) (f0s (cellsP (ev σ.t y)))) (hget σ.h)) loc' w) x (((a.eval y).cells[j]?).getD undef) := d0s_rep ht' hds (fun id hi => frz_in id hi) (fun j p hj => by
        obtain ⟨u, g3, _, g5⟩ := g2 j p hj
        rw [g3]; exact g5)
      obtain ⟨hk0, hA⟩ := ht'.mc.arr hob'
      cases hl : loc' id with
      | no =>
        rw [hl] at hA
        have hA : ar.es = [] := hA
        rw [hA] at he'
        cases he'
      | tb lo rl => rw [hl] at hA; exact hA.elim
      | pl b cap =>
        rw [hl] at hA
        obtain ⟨c, h2, h3, h4, h5, h6, h7⟩ := hA
        have hel : e.length = ar.k := h6 e (List.mem_of_getElem? he')
        have hil : i < ar.es.length := (List.getElem?_eq_some_iff.1 he').1
        have hir : (i + 1) * ar.k ≤ cap * ar.k := Nat.mul_le_mul_right _ (by omega)
        rw [Nat.add_mul, Nat.one_mul] at hir
        have hx' := hx.le ht'.cx ht'.rf (fun _ h => ht'.kn _ h)
        cases hx' with
        | @pr _ _ _ _ _ hk ho1 hv hb ha =>
          have e1 := ha ar hob' hver b cap hl
          have hrun := run_store_at hT (show w.heap[b]? = _ from h2) (v := a.eval y) (q := i * ar.k + off) (by omega) (by omega) hone
          have ht := Tr.setArr ht'.mc hob' hl hfz (ar.es.set i (splice e off ds)) (by simp) (fun x hx => by
              rcases List.mem_or_eq_of_mem_set hx with hx | rfl
              · exact h6 x hx
              · rw [splice_len (by omega)]; exact hel) (splice c.toList (i * ar.k + off) (a.eval y).cells.toList).toArray (by
              rw [List.size_toArray, splice_len (by rw [Array.length_toList, Array.length_toList]; omega), Array.length_toList, h3]) (fun i' j x d hx hd => by
            rw [List.getElem?_toArray, splice_get (by rw [Array.length_toList, Array.length_toList]; omega), Array.length_toList, g1, hlc]
            have hjl : j < x.length := (List.getElem?_eq_some_iff.1 hd).1
            by_cases hii : i' = i
            · subst hii
              rw [List.getElem?_set_self hil] at hx
              cases hx
              rw [splice_get (by omega), hl1] at hd
              rw [splice_len (by omega), hel] at hjl
              by_cases hc : off ≤ j ∧ j < off + T.size
              · rw [if_pos hc] at hd
                rw [if_pos (by omega), Array.getElem?_toList, show i' * ar.k + j - (i' * ar.k + off) = j - off by omega]
                have hr := hcell _ d hd
                have hjy : j - off < (a.eval y).cells.size := by omega
                refine ⟨_, Array.getElem?_eq_getElem hjy, hone _ (by simp), ?_⟩
                rw [Array.getElem?_eq_getElem hjy] at hr
                exact hr
              · rw [if_neg hc] at hd
                rw [if_neg (by omega), Array.getElem?_toList]
                exact h7 i' j e d he' hd
            · rw [List.getElem?_set_ne (Ne.symm hii)] at hx
              rw [h6 x (List.mem_of_getElem? hx)] at hjl
              have hne : ¬ (i * ar.k + off ≤ i' * ar.k + j ∧ i' * ar.k + j < i * ar.k + off + T.size) := by
                rcases Nat.lt_or_gt_of_ne hii with h8 | h8
                · have : (i' + 1) * ar.k ≤ i * ar.k := Nat.mul_le_mul_right _ h8
                  rw [Nat.add_mul, Nat.one_mul] at this
                  omega
                · have : (i + 1) * ar.k ≤ i' * ar.k := Nat.mul_le_mul_right _ h8
                  rw [Nat.add_mul, Nat.one_mul] at this
                  omega
              rw [if_neg hne, Array.getElem?_toList]
              exact h7 i' j x d hx hd)
          have ht2 := ht'.trans ht
          rw [← upd_cons] at ht2
          refine ⟨_, _, _, _, _, _, _, h, .inr ⟨?_, rfl⟩, ht2, .any _, ?_⟩
          · unfold execOp
            simp only [ho, e1, Instr.storeAt, Instr.sureAddr, Sem.run_bind, Sem.run_pure, Result.andThen_ok, hrun]
          · intro x hx
            rcases hx with hx | hx
            · exact .inl (hk' x hx)
            · subst hx; exact .inl (hm.objs _ _ hob).1
    · exact h.elim
  · rename_i id r i off he
    obtain ⟨ob, hob, h⟩ := got_spec h
    rw [he] at hx
    split at h
    · rename_i t
      obtain ⟨ds, hds, h⟩ := got_spec h
      obtain ⟨⟨hfz, hl1, hl2, h1, hno⟩, es, hes, e, he', h⟩ := h
      have hlc : (cellsP (ev σ.t y)).length = T.size := by rw [← (d0s_len hds).1, hl1]
      obtain ⟨g1, g2⟩ := cells_rep (evRep hs y) (allOne_mem h1)
      have hone : ∀ u ∈ (a.eval y).cells.toList, u.oneCell' = true := fun u hu => by
        obtain ⟨j, hj, rfl⟩ := List.getElem_of_mem hu
        rw [Array.length_toList, g1] at hj
        obtain ⟨u', g3, g4, _⟩ := g2 j _ (List.getElem?_eq_getElem hj)
        rw [Array.getElem?_eq_getElem (by omega)] at g3
        cases g3
        simpa using g4
      obtain ⟨loc', kn', ht', hk'⟩ := Tr.frz hm (f0s (cellsP (ev σ.t y)))
      have hob' : upd (frz (hget σ.h) (f0s (cellsP (ev σ.t y)))) (hget σ.h) id = some (.tab t) := by rw [frz_not hno, hob]
      have hcell : ∀ (j : Nat) (x : D), ds[j]? = some x → Rep (cxOf E (upd (frz (hget σ.h) (f0s (cellsP (ev σ.t y)))) (hget σ.h)) loc' w) x (((a.eval y).cells[j]?).getD undef) := d0s_rep ht' hds (fun id hi => frz_in id hi) (fun j p hj => by
        obtain ⟨u, g3, _, g5⟩ := g2 j p hj
        rw [g3]; exact g5)
      obtain ⟨lo, rl, hl, hTi⟩ := ht'.mc.tab hob'
      have hA := hTi.row r es hes
      have hil : i < es.length := (List.getElem?_eq_some_iff.1 he').1
      obtain ⟨b, cap, hrl⟩ := hA.at hil
      rw [hrl] at hA
      obtain ⟨c, h2, h3, h4, h5, h6, h7⟩ := hA
      have h3 : c.size = cap * t.k := h3
      have h4 : es.length ≤ cap := h4
      have h6 : ∀ e ∈ es, e.length = t.k := h6
      have h7 : ∀ (i j : Nat) (e : List D) (d : D), es[i]? = some e → e[j]? = some d → ∃ u, c[i * t.k + j]? = some u ∧ u.oneCell' = true ∧ Rep (cxOf E (upd (frz (hget σ.h) (f0s (cellsP (ev σ.t y)))) (hget σ.h)) loc' w) d u := h7
      have hel : e.length = t.k := h6 e (List.mem_of_getElem? he')
      have hir : (i + 1) * t.k ≤ cap * t.k := Nat.mul_le_mul_right _ (by omega)
      rw [Nat.add_mul, Nat.one_mul] at hir
      have hx' := hx.le ht'.cx ht'.rf (fun _ h => ht'.kn _ h)
      cases hx' with
      | @pw _ _ _ _ _ hk ho1 hv hh =>
        have e1 := hh t es hob' hes lo rl b cap hl hrl
        have hrun := run_store_at hT (show w.heap[b]? = _ from h2) (v := a.eval y) (q := i * t.k + off) (by omega) (by omega) hone
        have ht := Tr.setEl ht'.mc hob' hl hfz hes hrl (es.set i (splice e off ds)) (by simp) (fun x hx => by
            rcases List.mem_or_eq_of_mem_set hx with hx | rfl
            · exact h6 x hx
            · rw [splice_len (by omega)]; exact hel) (splice c.toList (i * t.k + off) (a.eval y).cells.toList).toArray (by
            rw [List.size_toArray, splice_len (by rw [Array.length_toList, Array.length_toList]; omega), Array.length_toList, h3]) (fun i' j x d hx hd => by
          rw [List.getElem?_toArray, splice_get (by rw [Array.length_toList, Array.length_toList]; omega), Array.length_toList, g1, hlc]
          have hjl : j < x.length := (List.getElem?_eq_some_iff.1 hd).1
          by_cases hii : i' = i
          · subst hii
            rw [List.getElem?_set_self hil] at hx
            cases hx
            rw [splice_get (by omega), hl1] at hd
            rw [splice_len (by omega), hel] at hjl
            by_cases hc : off ≤ j ∧ j < off + T.size
            · rw [if_pos hc] at hd
              rw [if_pos (by omega), Array.getElem?_toList, show i' * t.k + j - (i' * t.k + off) = j - off by omega]
              have hr := hcell _ d hd
              have hjy : j - off < (a.eval y).cells.size := by omega
              refine ⟨_, Array.getElem?_eq_getElem hjy, hone _ (by simp), ?_⟩
              rw [Array.getElem?_eq_getElem hjy] at hr
              exact hr
            · rw [if_neg hc] at hd
              rw [if_neg (by omega), Array.getElem?_toList]
              exact h7 i' j e d he' hd
          · rw [List.getElem?_set_ne (Ne.symm hii)] at hx
            rw [h6 x (List.mem_of_getElem? hx)] at hjl
            have hne : ¬ (i * t.k + off ≤ i' * t.k + j ∧ i' * t.k + j < i * t.k + off + T.size) := by
              rcases Nat.lt_or_gt_of_ne hii with h8 | h8
              · have : (i' + 1) * t.k ≤ i * t.k := Nat.mul_le_mul_right _ h8
                rw [Nat.add_mul, Nat.one_mul] at this
                omega
              · have : (i + 1) * t.k ≤ i' * t.k := Nat.mul_le_mul_right _ h8
                rw [Nat.add_mul, Nat.one_mul] at this
                omega
            rw [if_neg hne, Array.getElem?_toList]
            exact h7 i' j x d hx hd)
        have ht2 := ht'.trans ht
        rw [← upd_cons] at ht2
        refine ⟨_, _, _, _, _, _, _, h, .inr ⟨?_, rfl⟩, ht2, .any _, ?_⟩
        · unfold execOp
          simp only [ho, e1, Instr.storeAt, Instr.sureAddr, Sem.run_bind, Sem.run_pure, Result.andThen_ok, hrun]
        · intro x hx
          rcases hx with hx | hx
          · exact .inl (hk' x hx)
          · subst hx; exact .inl (hm.objs _ _ hob).1
    · exact h.elim
  · rename_i id ver i he
    obtain ⟨ob, hob, h⟩ := got_spec h
    rw [he] at hx
    split at h
    · rename_i t
      obtain ⟨⟨hver, hfz, hsz1, hil⟩, h⟩ := h
      obtain ⟨lo, rl, hl, hTi⟩ := hm.tab hob
      have hout := hTi.out
      cases lo with
      | no => have hout : t.out = [] := hout; rw [hout] at hil; exact absurd hil (by simp)
      | tb _ _ => exact hout.elim
      | pl b cap =>
        obtain ⟨c, c1, c2, c3, c4, c5⟩ := hout
        have hlt : i < c.size := by omega
        have hset : ∀ v : Value, (splice c.toList i [v]).toArray = c.setIfInBounds i v := fun v => by
          apply Array.ext_getElem?
          intro j
          rw [List.getElem?_toArray, splice_get (by simp; omega)]
          by_cases hji : j = i
          · subst hji
            rw [if_pos (by simp), Nat.sub_self, Array.getElem?_setIfInBounds_self_of_lt hlt]
            rfl
          · rw [if_neg (by simp; omega), Array.getElem?_setIfInBounds_ne (Ne.symm hji), Array.getElem?_toList]
        have runs : ∀ v : Value, v.cells = #[v] → v.oneCell' = true → a.eval x = .pointer (some ⟨b, i, none⟩) → a.eval y = v → (execOp a.eval o).run P w = .ok .skip (w.setRow b (c.setIfInBounds i v)) := fun v hv1 hv2 ex ey => by
          have hrun := run_store_at hT (show w.heap[b]? = _ from c1) (v := v) (q := i) (by rw [hv1, hsz1]; rfl) (by omega) (fun u hu => by rw [hv1] at hu; have : u = v := by simpa using hu
                                                                                                                                           rw [this]; exact hv2)
          rw [hv1] at hrun
          rw [← hset v]
          unfold execOp
          simp only [ho, ex, ey, Instr.storeAt, Instr.sureAddr, Sem.run_bind, Sem.run_pure, Result.andThen_ok, hrun]
        have hxp : a.eval x = .pointer (some ⟨b, i, none⟩) := by
          cases hx with
          | po hk ho1 hv hh => exact hh t hob hver b cap rl hl
        have hval : ∀ (l : Lc) (n : Nat), (l.val n).cells = #[l.val n] ∧ (l.val n).oneCell' = true := fun l n => by cases l <;> exact ⟨rfl, rfl⟩
        have hy := evRep hs y
        split at h
        · rename_i id1 r hy1
          obtain ⟨rfl, es, hes, h⟩ := h
          rw [hy1] at hy
          have hyv : a.eval y = (rl r).val es.length := by
            cases hy with
            | sw hk ho1 hv hh => exact hh t es hob hes _ rl hl
          exact ⟨_, _, _, _, _, _, _, h, .inr ⟨runs _ (hval _ _).1 (hval _ _).2 hxp hyv, rfl⟩, Tr.setOut hm hob hl hfz hes hil c1, .any _, kn_same (hm.objs _ _ hob).1⟩
        · rename_i id1 ver1 hy1
          obtain ⟨ob1, hob1, h⟩ := got_spec h
          split at h
          · rename_i ar
            obtain ⟨⟨hv1, haf, hae, hak, hne⟩, h⟩ := h
            rw [hy1] at hy
            have hyv : a.eval y = (loc id1).val ar.es.length := by
              cases hy with
              | sr hk ho1 hv hh =>
                have := hh ar hob1 hv1
                cases hl1 : loc id1 <;> rw [hl1] at this <;> first | exact this | exact this.elim
            have hother : ∀ x, x ≠ b → (w.setRow b (c.setIfInBounds i ((loc id1).val ar.es.length))).heap[x]? = w.heap[x]? := fun x hx => setRow_other w b x _ hx
            have hbn : rl t.rows.length = .no := hTi.gone _ (by simp [Tab.row])
            have ht := Tr.adoptRow hm hob hl hfz hob1 hne haf hae hak (t.out.set i t.rows.length) t.ver (.pl b cap) (w.setRow b (c.setIfInBounds i ((loc id1).val ar.es.length))) (by rw [setRow_size]; exact Nat.le_refl _) rfl rfl rfl
              (fun x hx hno => hother x (fun e => hno e)) (fun x hx => .inl hx) (Nat.le_refl _) (fun _ => ⟨by simp, rfl⟩) (fun j q hq => by
                by_cases hji : j = i
                · subst hji
                  rw [List.getElem?_set_self hil] at hq
                  cases hq
                  omega
                · rw [List.getElem?_set_ne (Ne.symm hji)] at hq
                  have := hTi.idx j q hq
                  omega) ⟨_, heap_setRow_same w b c _ t.el c1, by simp [c2], by simpa using c3, c4, fun j q es2 hq h2 => by
                by_cases hji : j = i
                · subst hji
                  rw [List.getElem?_set_self hil] at hq
                  cases hq
                  simp only [Tab.row, List.getElem?_append_right (Nat.le_refl _), Nat.sub_self, List.getElem?_cons_zero, Option.getD_some, Option.some.injEq] at h2
                  subst h2
                  rw [Array.getElem?_setIfInBounds_self_of_lt hlt]
                  exact congrArg (fun l : Lc => some (l.val ar.es.length)) (if_pos rfl).symm
                · rw [List.getElem?_set_ne (Ne.symm hji)] at hq
                  rw [Array.getElem?_setIfInBounds_ne (Ne.symm hji)]
                  have hqn := hTi.idx j q hq
                  simp only [Tab.row, List.getElem?_append_left hqn] at h2
                  rw [c5 j q es2 hq h2]
                  exact congrArg (fun l : Lc => some (l.val es2.length)) (if_neg (by omega)).symm⟩
            refine ⟨_, _, _, _, _, _, _, h, .inr ⟨runs _ (hval _ _).1 (hval _ _).2 hxp hyv, rfl⟩, ht, .any _, fun x hx => ?_⟩
            rcases hx with hx | rfl | rfl
            · exact .inl hx
            · exact .inl (hm.objs _ _ hob).1
            · exact .inl (hm.objs _ _ hob1).1
          · exact h.elim
        · exact h.elim
    · exact h.elim
  · exact h.elim

/-! ### literals -/
theorem fill_rep {C : Cx} {hg : Nat → Option Ob} {flds : List (Nat × Nat)} {pl : Nat → Option (Nat × Nat)} (hpl : ∀ i x, flds[i]? = some x → pl i = some x) : ∀ {ps : List (Nat × PV)} {vs : List (Nat × Value)} {cells r : List PV} {c : Array Value},
    (∀ (j : Nat) (p : Nat × PV), ps[j]? = some p → (∀ q ∈ cellsP p.2, q.one) ∧ ∃ v, vs[j]? = some (p.1, v) ∧ PRep C hg loc kn p.2 v) → ps.length = vs.length → fillP flds ps cells = some r → c.size = cells.length →
    (∀ (j : Nat) (p : PV), cells[j]? = some p → ∃ u, c[j]? = some u ∧ PRep C hg loc kn p u) →
    ∃ c', Instr.fill pl c vs = some c' ∧ c'.size = r.length ∧ ∀ (j : Nat) (p : PV), r[j]? = some p → ∃ u, c'[j]? = some u ∧ PRep C hg loc kn p u
  | [], vs, cells, r, c, _, hl, h, hc, hj => by
    have : vs = [] := List.eq_nil_of_length_eq_zero hl.symm
    subst this
    cases h
    exact ⟨c, rfl, hc, hj⟩
  | (i, p) :: ps, [], _, _, _, _, hl, _, _, _ => by cases hl
  | (i, p) :: ps, (i', v) :: vs, cells, r, c, hp, hl, h, hc, hj => by
    obtain ⟨h1p, v', hv, hr⟩ := hp 0 (i, p) rfl
    cases hv
    unfold fillP at h
    split at h
    · rename_i off sz hf
      split at h
      · rename_i hcond
        obtain ⟨h1, h2⟩ := hcond
        have hsz : v.cells.size = (cellsP p).length ∧ ∀ (j : Nat) (q : PV), (cellsP p)[j]? = some q → ∃ u, v.cells[j]? = some u ∧ PRep C hg loc kn q u := by
          obtain ⟨x1, x2⟩ := cells_rep hr h1p
          exact ⟨x1, fun j q hq => by obtain ⟨u, y1, _, y3⟩ := x2 j q hq; exact ⟨u, y1, y3⟩⟩
        obtain ⟨g1, g2⟩ := hsz
        obtain ⟨f1, f2⟩ := Great.foldl_set off v.cells.toList 0 c
        have := fill_rep hpl (ps := ps) (vs := vs) (cells := splice cells off (cellsP p)) (r := r) (c := (v.cells.toList.zipIdx 0).foldl (fun cs (x : Value × Nat) => cs.setIfInBounds (off + x.2) x.1) c)
          (fun j q hq => hp (j + 1) q hq) (by simpa using hl) h (by rw [f1, splice_len (by omega), hc]) (fun j q hq => by
            rw [f2 j, Array.length_toList, g1, Nat.add_zero]
            rw [splice_get (by omega)] at hq
            by_cases hin : off ≤ j ∧ j < off + (cellsP p).length
            · rw [if_pos hin] at hq
              rw [if_pos ⟨hin.1, hin.2, by omega⟩, Array.getElem?_toList]
              exact g2 _ q hq
            · rw [if_neg hin] at hq
              rw [if_neg (by omega)]
              exact hj j q hq)
        obtain ⟨c', k1, k2, k3⟩ := this
        refine ⟨c', ?_, k2, k3⟩
        unfold Instr.fill
        simp only [hpl i _ hf]
        rw [if_neg (by simp [g1, h1]; omega), ← Array.foldl_toList, Array.toList_zipIdx]
        exact k1
      · cases h
    · cases h

theorem out_build {t : TypeId} {parts : Array (Nat × Operand)} (ho : o.op = .build t parts) (h : vcOp P o nid σ K) (hm : MC E (hget σ.h) loc kn w) (hs : SlotsOk (cxOf E (hget σ.h) loc w) (hget σ.h) loc kn σ.t a) : Out P E o σ nid loc kn w a K := by
  unfold vcOp at h
  simp only [ho] at h
  obtain ⟨T, hT, h⟩ := got_spec h
  obtain ⟨⟨harr, hagg, hone⟩, h⟩ := h
  obtain ⟨cs, hcs, h⟩ := got_spec h
  obtain ⟨i, d, z, hi, hd, hz, e1, e2, e3, e4, e5, e6, e7⟩ := TY_spec hT
  cases d with
  | struct fs =>
    have hfl : fs.toList.mapM (fun f : Field => (P.info? f.type).map fun i => (f.offset, i.size)) = some T.flds := e6
    have hA : ∀ (j : Nat) (p : Nat × PV), (parts.toList.map fun p => (p.1, ev σ.t p.2))[j]? = some p → (∀ q ∈ cellsP p.2, q.one) ∧ ∃ v, ((parts.map fun (i, x) => (i, a.eval x)).toList)[j]? = some (p.1, v) ∧ PRep (cxOf E (hget σ.h) loc w) (hget σ.h) loc kn p.2 v := fun j p hp => by
      rw [List.getElem?_map] at hp
      obtain ⟨q, hq, rfl⟩ := Option.map_eq_some_iff.1 hp
      refine ⟨fun r hr => allOne_mem hone r ?_, a.eval q.2, ?_, evRep hs q.2⟩
      · exact List.mem_flatMap.2 ⟨_, List.mem_map.2 ⟨q, List.mem_of_getElem? hq, rfl⟩, hr⟩
      · rw [Array.toList_map, List.getElem?_map, hq]
        rfl
    have hB : ∀ (j : Nat) (p : PV), (T.zero.map zPV)[j]? = some p → ∃ u, z.cells[j]? = some u ∧ PRep (cxOf E (hget σ.h) loc w) (hget σ.h) loc kn p u := fun j p hj => by
      rw [List.getElem?_map] at hj
      obtain ⟨v, hv, rfl⟩ := Option.map_eq_some_iff.1 hj
      rw [e3, Array.getElem?_toList] at hv
      exact ⟨v, hv, zPVRep v⟩
    obtain ⟨c', k1, k2, k3⟩ := fill_rep (pl := (T.flds.toArray[·]?)) (fun i x hx => by simpa using hx) hA (by simp) hcs (by simp [e3]) hB
    have hb : P.built t (parts.map fun (i, x) => (i, a.eval x)).toList = some c' := by
      unfold Program.built
      simp only [hi, hd, hz, hfl]
      exact k1
    refine Out.quiet hm h (v := .agg c') (by unfold execOp; simp only [ho, Sem.run_bind, run_build w t _ _ hb, Result.andThen_ok, Sem.run_pure]) (.agg k2 (fun j p v hp hv => ?_))
    obtain ⟨u, g1, g2⟩ := k3 j p hp
    rw [hv] at g1
    cases g1
    exact g2
  | array => rw [harr] at e7; cases e7
  | _ => rw [hagg] at e4; cases e4

theorem d0s_sub {hg : Nat → Option Ob} : ∀ {ps qs : List PV} {xs : List D}, d0s hg ps = some xs → (∀ q ∈ qs, q ∈ ps) → ∃ ys, d0s hg qs = some ys
  | ps, [], xs, _, _ => ⟨[], rfl⟩
  | ps, q :: qs, xs, h, hs => by
    obtain ⟨ys, hy⟩ := d0s_sub h (fun r hr => hs r (List.mem_cons_of_mem _ hr))
    obtain ⟨j, hj⟩ := List.mem_iff_getElem?.1 (hs q List.mem_cons_self)
    have hjl : j < xs.length := by rw [(d0s_len h).1]; exact (List.getElem?_eq_some_iff.1 hj).1
    obtain ⟨p, h1, h2, _⟩ := (d0s_len h).2 j _ (List.getElem?_eq_getElem hjl)
    rw [hj] at h1
    cases h1
    exact ⟨xs[j] :: ys, by simp only [d0s, h2, hy]⟩
theorem f0s_sub : ∀ {ps : List PV} {q : PV}, q ∈ ps → ∀ id ∈ f0 q, id ∈ f0s ps
  | [], q, h, _, _ => by cases h
  | p :: ps, q, h, id, hid => by
    rcases List.mem_cons.1 h with rfl | h
    · simp [f0s, hid]
    · simp [f0s, f0s_sub h id hid]

theorem run_lit {t : TypeId} {len : Nat} {parts : Array (Nat × Operand)} {T E2 : Ty} (hT : TY P t = some T) (hE : TY P T.elem = some E2) (hslc : T.slc = true) (hidx : parts.toList.map (·.1) = List.range len) (hsz : 0 < E2.size) (hzl : E2.zero.length = E2.size) (hsm : len * E2.size ≤ 16777216) (hvs0 : ∀ p ∈ parts.toList, (a.eval p.2).cells.size = E2.size) :
    ∃ r : Array Value, r.size = len * E2.size ∧ (∀ (q j : Nat) (p : Nat × Operand) (u : Value), parts.toList[q]? = some p → (a.eval p.2).cells[j]? = some u → r[q * E2.size + j]? = some u) ∧
      (Instr.buildSlice t len (parts.map fun (i, x) => (i, a.eval x))).run P w = .ok (.slice (some ⟨w.heap.size, 0, none⟩) len len) (w.alloc (.cells r T.elem)) := by
  have hu := slc_spec hT hslc
  obtain ⟨i, d, z, hi, hd, hz, x1, x2, x3, _⟩ := TY_spec hE
  have hzs : z.cells.size = E2.size := by rw [← hzl, x3]; simp
  have hlen : parts.toList.length = len := by have := congrArg List.length hidx; simpa using this
  have hvs : ∀ v ∈ parts.toList.map (fun p => a.eval p.2), v.cells.size = E2.size := fun v hv => by
    obtain ⟨p, hp, rfl⟩ := List.mem_map.1 hv
    exact hvs0 p hp
  have hpe : (parts.map fun (i, x) => (i, a.eval x)).toList = ((parts.toList.map (fun p => a.eval p.2)).zipIdx 0).map fun x => (x.2, x.1) := by
    rw [Array.toList_map]
    apply List.ext_getElem?
    intro j
    rw [List.getElem?_map, List.getElem?_map, List.getElem?_zipIdx, List.getElem?_map]
    cases hj : parts.toList[j]? with
    | none => rfl
    | some p =>
      have h1 : (parts.toList.map (·.1))[j]? = some p.1 := by rw [List.getElem?_map, hj]; rfl
      have hjl : j < len := by rw [← hlen]; exact (List.getElem?_eq_some_iff.1 hj).1
      rw [hidx, List.getElem?_range hjl] at h1
      cases h1
      simp
  obtain ⟨r, k1, k2, k3⟩ := Great.fill_dense hsz (parts.toList.map (fun p => a.eval p.2)) 0 ((Array.range (len * i.size)).map (z.cells[· % z.cells.size]!)) hvs (by simp [hlen, x1])
  refine ⟨r, by rw [k2]; simp [x1], fun q j p u hp hu' => ?_, ?_⟩
  · have hql : q < len := by rw [← hlen]; exact (List.getElem?_eq_some_iff.1 hp).1
    have hjl : j < E2.size := by rw [← hvs0 p (List.mem_of_getElem? hp)]; exact (Array.getElem?_eq_some_iff.1 hu').1
    have hin : (q + 1) * E2.size ≤ len * E2.size := Nat.mul_le_mul_right _ hql
    rw [Nat.add_mul, Nat.one_mul] at hin
    rw [k3, if_pos ⟨by omega, by rw [List.length_map, hlen, Nat.zero_add]; omega⟩, Nat.sub_zero]
    have e1 : (q * E2.size + j) / E2.size = q := by rw [Nat.mul_comm, Nat.mul_add_div hsz, Nat.div_eq_of_lt hjl, Nat.add_zero]
    have e2 : (q * E2.size + j) % E2.size = j := by rw [Nat.mul_comm, Nat.mul_add_mod, Nat.mod_eq_of_lt hjl]
    rw [e1, e2, List.getElem?_map, hp]
    exact hu'
  · by_cases hl0 : len = 0
    · subst hl0
      have hp0 : parts.toList = [] := List.eq_nil_of_length_eq_zero hlen
      have hp1 : parts = #[] := by cases parts; simpa using hp0
      subst hp1
      have : r = #[] := by apply Array.eq_empty_of_size_eq_zero; rw [k2]; simp
      subst this
      simp [Instr.buildSlice, run_underlying hu, sizeOf, typeInfo, hi, Instr.fill, newRow, Array.range_zero']
    · exact run_buildSlice w t T.elem len _ r i z hu hi hz (by rw [← x1]; omega) (by rw [← x1]; intro e; rcases Nat.mul_eq_zero.1 e with e | e <;> omega) (by rw [hpe]; rw [x1] at k1; exact k1)

theorem out_lit {t : TypeId} {len : Nat} {parts : Array (Nat × Operand)} (ho : o.op = .buildSlice t len parts) {T E2 : Ty} (hT : TY P t = some T) (hE : TY P T.elem = some E2) (hslc : T.slc = true) (hidx : parts.toList.map (·.1) = List.range len) (hsz : E2.size = 1) (hzl : E2.zero.length = 1) (hlm : len ≤ 16777216)
    (hp : ∀ p ∈ parts.toList, cellsP (ev σ.t p.2) = [ev σ.t p.2] ∧ (ev σ.t p.2).one) (h : K σ (.lt (parts.toList.map fun p => ev σ.t p.2)) [] []) (hm : MC E (hget σ.h) loc kn w) (hs : SlotsOk (cxOf E (hget σ.h) loc w) (hget σ.h) loc kn σ.t a) : Out P E o σ nid loc kn w a K := by
  have hlen : parts.toList.length = len := by have := congrArg List.length hidx; simpa using this
  have part : ∀ p ∈ parts.toList, (a.eval p.2).cells = #[a.eval p.2] ∧ (a.eval p.2).oneCell' = true := fun p hpp => by
    obtain ⟨g1, g2⟩ := hp p hpp
    have hv := one_cell g2 (evRep hs p.2)
    exact ⟨by cases hx : a.eval p.2 <;> first | rfl | (rw [hx] at hv; cases hv), hv⟩
  obtain ⟨r, k1, k2, hrun⟩ := run_lit (a := a) (w := w) hT hE hslc hidx (by omega) (by omega) (by rw [hsz]; omega) (fun p hpp => by rw [(part p hpp).1, hsz]; rfl)
  have ht := Tr.ext hm (w' := w.alloc (.cells r T.elem)) ((Below.refl _ _).alloc (Nat.le_refl _) _)
  have hcell : ∀ (j : Nat) (q : PV), (parts.toList.map fun p => ev σ.t p.2)[j]? = some q → ∃ p, parts.toList[j]? = some p ∧ q = ev σ.t p.2 ∧ r[j]? = some (a.eval p.2) := fun j q hj => by
    rw [List.getElem?_map] at hj
    obtain ⟨p, hpj, rfl⟩ := Option.map_eq_some_iff.1 hj
    have := k2 j 0 p (a.eval p.2) hpj (by rw [(part p (List.mem_of_getElem? hpj)).1]; rfl)
    rw [hsz, Nat.mul_one, Nat.add_zero] at this
    exact ⟨p, hpj, rfl, this⟩
  have hblk : (w.alloc (.cells r T.elem)).heap[w.heap.size]? = some (.cells r T.elem (0, 0)) := alloc_new w _
  refine ⟨_, _, _, .slice (some ⟨w.heap.size, 0, none⟩) len len, loc, kn, _, h, .inl ?_, ht, ?_, fun id hi => .inl hi⟩
  · unfold execOp
    simp [ho, hrun]
  · have e : len = (parts.toList.map fun p => ev σ.t p.2).length := by simp [hlen]
    rw [show PRep _ _ _ _ _ (Value.slice (some ⟨w.heap.size, 0, none⟩) len len) = PRep _ _ _ _ _ (Value.slice (some ⟨w.heap.size, 0, none⟩) (parts.toList.map fun p => ev σ.t p.2).length len) by rw [← e]]
    refine .lt (fun j => (r[j]?).getD undef) (by omega) (by simp only [maxLen]; omega) (fun j q hj => ?_) (fun j q hj => ?_)
    · obtain ⟨p, g1, rfl, g3⟩ := hcell j q hj
      rw [g3]
      refine ⟨rd_row hblk g3, (part p (List.mem_of_getElem? g1)).2, fun ⟨id, ob, h1, h2, _⟩ => ?_, fun ham => ?_⟩
      · have := (hm.fresh id _ (by rw [show hget σ.h id = some ob from h1]; simp) h2).2
        omega
      · have := hm.amlt _ _ ham
        have := hm.ext.size
        omega
    · obtain ⟨p, g1, rfl, g3⟩ := hcell j q hj
      rw [g3]
      exact (evRep hs p.2).le ht.cx ht.rf ht.kn

theorem out_buildSlice {t : TypeId} {len : Nat} {parts : Array (Nat × Operand)} (ho : o.op = .buildSlice t len parts) (h : vcOp P o nid σ K) (hm : MC E (hget σ.h) loc kn w) (hn : ¬ kn nid) (hs : SlotsOk (cxOf E (hget σ.h) loc w) (hget σ.h) loc kn σ.t a) : Out P E o σ nid loc kn w a K := by
  unfold vcOp at h
  simp only [ho] at h
  obtain ⟨T, hT, h⟩ := got_spec h
  obtain ⟨E2, hE, h⟩ := got_spec h
  by_cases hlit : litT E2 = true ∧ 0 < len
  · rw [if_pos hlit] at h
    obtain ⟨⟨hslc, hidx, hsz, hzl, hlm, hp⟩, h⟩ := h
    exact out_lit ho hT hE hslc hidx hsz hzl hlm hp h hm hs
  rw [if_neg hlit] at h
  obtain ⟨ds, hds, h⟩ := got_spec h
  obtain ⟨⟨hslc, hidx, hsz, hzl, hpl, hsm, hone⟩, h⟩ := h
  have hu := slc_spec hT hslc
  obtain ⟨i, d, z, hi, hd, hz, x1, x2, x3, _⟩ := TY_spec hE
  have hzs : z.cells.size = E2.size := by rw [← hzl, x3]; simp
  obtain ⟨loc', kn', ht', hk'⟩ := Tr.frz hm (f0s ((parts.toList.map fun p => ev σ.t p.2).flatMap cellsP))
  have hlen : parts.toList.length = len := by have := congrArg List.length hidx; simpa using this
  -- one part
  have part : ∀ p ∈ parts.toList, ∃ e, d0s (hget σ.h) (cellsP (ev σ.t p.2)) = some e ∧ e.length = E2.size ∧ (a.eval p.2).cells.size = E2.size ∧ ∀ (j : Nat) (x : D), e[j]? = some x → ∃ u, (a.eval p.2).cells[j]? = some u ∧ u.oneCell' = true ∧
      Rep (cxOf E (upd (frz (hget σ.h) (f0s ((parts.toList.map fun p => ev σ.t p.2).flatMap cellsP))) (hget σ.h)) loc' w) x u := fun p hp => by
    have hsub : ∀ q ∈ cellsP (ev σ.t p.2), q ∈ (parts.toList.map fun p => ev σ.t p.2).flatMap cellsP := fun q hq => List.mem_flatMap.2 ⟨_, List.mem_map.2 ⟨p, hp, rfl⟩, hq⟩
    obtain ⟨e, he⟩ := d0s_sub hds hsub
    obtain ⟨g1, g2⟩ := cells_rep (evRep hs p.2) (fun q hq => allOne_mem hone q (hsub q hq))
    refine ⟨e, he, by rw [(d0s_len he).1, hpl p hp], by rw [g1, hpl p hp], fun j x hj => ?_⟩
    obtain ⟨q, y1, y2, y3⟩ := (d0s_len he).2 j x hj
    obtain ⟨u, y4, y5, y6⟩ := g2 j q y1
    exact ⟨u, y4, y5, d0_rep ht' y2 (fun id hid => frz_in id (f0s_sub (hsub q (List.mem_of_getElem? y1)) id hid)) y6⟩
  obtain ⟨r, k2, k3, hrun⟩ := run_lit (a := a) (w := w) hT hE hslc hidx hsz hzl hsm (fun p hp => by obtain ⟨e, _, _, y, _⟩ := part p hp; exact y)
  have hmax : len ≤ maxLen := by
    have : len * 1 ≤ len * E2.size := Nat.mul_le_mul_left _ hsz
    simp only [maxLen]; omega
  have hn' : ¬ kn' nid := fun hh => hn (hk' _ hh)
  have hes : ∀ (q : Nat) (e : List D), (parts.toList.map fun p => ((d0s (hget σ.h) (cellsP (ev σ.t p.2))).getD []))[q]? = some e → ∃ p, parts.toList[q]? = some p ∧ d0s (hget σ.h) (cellsP (ev σ.t p.2)) = some e := fun q e hq => by
    rw [List.getElem?_map] at hq
    obtain ⟨p, hp, rfl⟩ := Option.map_eq_some_iff.1 hq
    obtain ⟨e', he', _⟩ := part p (List.mem_of_getElem? hp)
    exact ⟨p, hp, by rw [he']; rfl⟩
  have ht := Tr.newArr ht'.mc hn' ⟨T.elem, E2.size, 0, false, (parts.toList.map fun p => ((d0s (hget σ.h) (cellsP (ev σ.t p.2))).getD []))⟩ r len hsz (by rw [k2]) (by simp [hlen]) hmax (fun e he => by
      obtain ⟨q, hq⟩ := List.mem_iff_getElem?.1 he
      obtain ⟨p, hp, hpe'⟩ := hes q e hq
      obtain ⟨e', he', hl', _⟩ := part p (List.mem_of_getElem? hp)
      rw [hpe'] at he'
      cases he'
      exact hl') (fun q j e dd hq hj => by
    obtain ⟨p, hp, hpe'⟩ := hes q e hq
    obtain ⟨e', he', hl', hv', hc'⟩ := part p (List.mem_of_getElem? hp)
    rw [hpe'] at he'
    cases he'
    obtain ⟨u, y1, y2, y3⟩ := hc' j dd hj
    exact ⟨u, k3 q j p u hp y1, y2, y3⟩)
  have ht2 := ht'.trans ht
  rw [← upd_cons] at ht2
  refine ⟨_, _, _, .slice (some ⟨w.heap.size, 0, none⟩) len len, _, _, _, h, .inl (by unfold execOp; simp only [ho, Sem.run_bind, hrun, Result.andThen_ok, Sem.run_pure]), ht2, ?_, fun x hx => ?_⟩
  · refine .sr (.inr rfl) rfl (fun a' h' => Nat.zero_le _) (fun a' h' _ => ?_)
    unfold upd at h'
    rw [if_pos rfl] at h'
    cases h'
    rw [show locAdd loc' nid (.pl w.heap.size len) nid = .pl w.heap.size len from if_pos rfl]
    simp [hlen]
  · rcases hx with hx | hx
    · exact .inl (hk' x hx)
    · exact .inr (by omega)
end
end Go.Pm
