/-
  simileref11: Stack.
-/
import Derived.Test.YtbhenelehhiakaaGreatSum28
import Derived.Test.YtbhenelehhiakaaGreatSum29
set_option linter.unusedVariables false
set_option linter.unusedSimpArgs false
namespace Go.Proofs.YtbhenelehhiakaaGreat
open Go.RowKit

theorem length_fracs (d : Int) (l : List (List Int)) : (fracs d l).length = l.length := List.length_map ..

end Go.Proofs.YtbhenelehhiakaaGreat
/-
  simileref11: Cut.
-/
namespace Go.Proofs.YtbhenelehhiakaaGreat
open Go.RowKit

/-- a part of a list, its room kept -/
theorem Sl.part {α : Type} {r : Rd α} {B : Nat} {w : World} {a : Option Addr} {n c : Nat} {xs : List α} (h : Sl r B w a n c xs) {lo hi2 : Nat} (h1 : lo ≤ hi2) (h2 : hi2 ≤ n) : Sl r B w (if c = lo then a else a.map (·.add (lo * r.size))) (hi2 - lo) (c - lo) ((xs.drop lo).take (hi2 - lo)) := by
  have hc := h.cap
  have hm := h.most
  by_cases h0 : c = lo
  · rw [if_pos h0]
    have e : hi2 - lo = 0 := by omega
    rw [e, List.take_zero]
    exact ⟨rfl, Nat.zero_le _, by omega, fun _ => by omega, fun i hi => absurd hi (by simp)⟩
  · rw [if_neg h0]
    cases a with
    | none =>
      have hc0 := h.nil rfl
      have e : hi2 - lo = 0 := by omega
      rw [e, List.take_zero]
      exact ⟨rfl, Nat.zero_le _, by omega, fun _ => by omega, fun i hi => absurd hi (by simp)⟩
    | some ad =>
      by_cases hl0 : hi2 - lo = 0
      · rw [hl0, List.take_zero]
        exact ⟨rfl, Nat.zero_le _, by omega, fun e => (by cases e), fun i hi => absurd hi (by simp)⟩
      · obtain ⟨b, o, cs, hab, _⟩ := h.at_ 0 (by rw [h.len]; omega)
        cases hab
        have hs := h.sub (k := lo) (l := hi2 - lo) (by omega)
        refine ⟨hs.len, by omega, by omega, fun e => (by cases e), fun i hi => ?_⟩
        obtain ⟨b', o', cs, e, hr, hcs⟩ := hs.at_ i hi
        cases e
        refine ⟨b, o + lo * r.size, cs, ?_, hr, hcs⟩
        show (some ((⟨b, o, none⟩ : Addr).add (lo * r.size))) = _
        by_cases hz : lo * r.size = 0
        · rw [hz]; simp [Addr.add]
        · simp [Addr.add, hz]
end Go.Proofs.YtbhenelehhiakaaGreat
