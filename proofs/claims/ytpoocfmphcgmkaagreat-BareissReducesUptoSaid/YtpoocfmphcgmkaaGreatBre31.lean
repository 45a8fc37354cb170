/-
  The pure machine: an answer that is a fresh object, taken as data.
-/
import Derived.Test.YtpoocfmphcgmkaaGreatBre7
set_option linter.unusedVariables false
set_option linter.unusedSimpArgs false
set_option linter.unusedSimpArgs false
set_option linter.unusedVariables false
namespace Go.Pm
open Go.RowKit

theorem owl_no (b o : Nat) : ¬ owl [Lc.no] b o := by
  rintro ⟨l, hl, hb⟩
  obtain rfl : l = .no := by simpa using hl
  exact hb
theorem leD_own {w : World} {am : Nat → Nat → Prop} {ls : List Lc} : Cx.leD ⟨w, owl ls, am, none⟩ ⟨w, owl [.no], am, none⟩ := fun b o _ h1 _ h3 => ⟨h1, owl_no b o, h3⟩
theorem rall_one {C : Cx} {ls : List Lc} {us : List Value} {r : R1} (h : RAll C ls [r] us) : ∃ l u, ls = [l] ∧ us = [u] ∧ R1At C l r u := by
  cases ls with
  | nil => cases us <;> exact h.elim
  | cons l ls =>
    cases us with
    | nil => exact h.elim
    | cons u us =>
      obtain ⟨h1, h2⟩ := h
      cases ls with
      | cons => cases us <;> exact h2.elim
      | nil =>
        cases us with
        | cons => exact h2.elim
        | nil => exact ⟨l, u, rfl, rfl, h1⟩
theorem PCall.sto_d {P : Program} {f : FuncId} {xs : List PV} {el rel : TypeId} {k : Nat} {rows : List (List (List D))} (h : PCall P f xs (.one (.sto el rel k rows))) : PCall P f xs (.one (.d (.sl (rows.map fun es => [.sl es])))) where
  enters := h.enters
  calls := fun am w vs ham hl hr => (h.calls am w vs ham hl hr).mono fun e w' ⟨v, he, hb, ls, us, hv, hall, _, hblk⟩ => by
    refine ⟨v, he, hb, [.no], us, hv, ?_, ⟨fun b h => h.elim, trivial⟩, fun l hl b hb => by
      obtain rfl : l = .no := by simpa using hl
      exact hb.elim⟩
    obtain ⟨l, u, rfl, rfl, h1, h2⟩ : ∃ l u, ls = [l] ∧ us = [u] ∧ R1At ⟨w', owl ls, am, none⟩ l (.sto el rel k rows) u := rall_one hall
    · refine ⟨⟨rfl, ?_⟩, trivial⟩
      cases l with
      | no => exact h1.elim
      | pl _ _ => exact h1.elim
      | tb lo rl =>
        have h3 := h2 lo rl rfl
        have hfr : ∀ b, (lo.has b ∨ ∃ r, (rl r).has b) → ∀ o, ¬ am b o := fun b hb o h => by
          have := ham b o h; have := (hblk (.tb lo rl) (by simp) b hb).1; omega
        have hrow : ∀ (i : Nat) (es : List (List D)), rows[i]? = some es → Rep ⟨w', owl [.no], am, none⟩ (.sl es) ((rl i).val es.length) := fun i es hi => by
          have h4 := h1.row i es (by simp [Tab.row, hi])
          have h5 := ArrAt.leD (leD_own (w := w') (am := am) (ls := [.tb lo rl])) (fun _ _ => rfl) h4
          exact arr_rep h5 fun b o hb _ => ⟨owl_no b o, hfr b (.inr ⟨i, hb⟩) o⟩
        have hout := h1.out
        subst h3
        cases lo with
        | tb _ _ => exact hout.elim
        | no =>
          have hout : List.range rows.length = [] := hout
          have : rows.length = 0 := by have := congrArg List.length hout; simpa using this
          have : rows = [] := List.eq_nil_of_length_eq_zero this
          subst this
          exact .nil
        | pl b cap =>
          obtain ⟨cc, g1, g2, g3, g4, g5⟩ := hout
          have hlen : (rows.map fun es => [D.sl es]).length = rows.length := by simp
          have get : ∀ (i j : Nat) (e : List D) (p : D), (rows.map fun es => [D.sl es])[i]? = some e → e[j]? = some p → ∃ xs, j = 0 ∧ p = .sl xs ∧ rows[i]? = some xs ∧ cc[i]? = some ((rl i).val xs.length) := fun i j e p he hp => by
            rw [List.getElem?_map] at he
            obtain ⟨xs, k1, rfl⟩ := Option.map_eq_some_iff.1 he
            have hj : j = 0 := by have := (List.getElem?_eq_some_iff.1 hp).1; simpa using this
            subst hj
            have hil := (List.getElem?_eq_some_iff.1 k1).1
            exact ⟨xs, rfl, by simpa using hp.symm, k1, g5 i i xs (by rw [List.getElem?_range hil]) (by simp [Tab.row, k1])⟩
          show Rep _ _ (Value.slice _ _ _)
          have := Rep.sl (C := ⟨w', owl [.no], am, none⟩) (rows.map fun es => [D.sl es]) 1 cap b 0 (fun i _ => (cc[i]?).getD undef) (by simpa using g3) g4 (fun e he => by
            obtain ⟨xs, _, rfl⟩ := List.mem_map.1 he; rfl) (fun i j e p he hp => by
            obtain ⟨xs, rfl, rfl, k1, k2⟩ := get i j e p he hp
            rw [k2]
            have hone : ((rl i).val xs.length).oneCell' = true := by cases rl i <;> rfl
            refine ⟨?_, hone, owl_no b 0, hfr b (.inl rfl) _⟩
            rw [Nat.mul_one, Nat.add_zero, Nat.zero_add]; exact rd_row g1 k2) (fun i j e p he hp => by
            obtain ⟨xs, rfl, rfl, k1, k2⟩ := get i j e p he hp
            rw [k2]
            exact hrow i xs k1)
          rw [hlen] at this
          exact this
end Go.Pm
