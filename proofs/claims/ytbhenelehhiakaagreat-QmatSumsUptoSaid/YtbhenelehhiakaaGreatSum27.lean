/-
  The references' matrices, part 2: From.
-/
import Derived.Deep.RegionLaw
import Derived.Test.YtbhenelehhiakaaGreatSum26
import Derived.Test.YtbhenelehhiakaaGreatSum24
set_option linter.unusedVariables false
set_option linter.unusedSimpArgs false
namespace Go.Proofs.YtbhenelehhiakaaGreat
open Go.RowKit

/-- a fraction whose words lie in the world w0 -/
def rRatO (w0 : World) (K : Nat) : Rd Rat where
  size := 4
  ok _ _ cs q := ∃ b a n c b2 a2 n2 c2, cs = [.bool b, .slice a n c, .bool b2, .slice a2 n2 c2] ∧ RatS K w0 b a n c b2 a2 n2 c2 q
  len h := by obtain ⟨b, a, n, c, b2, a2, n2, c2, h, _⟩ := h; rw [h]; rfl
  mono h _ _ := h

/-- the cells of a list -/
theorem Sl.cells {α : Type} {r : Rd α} {B : Nat} {w : World} {a : Option Addr} {n c : Nat} {xs : List α} (h : Sl r B w a n c xs) : ∃ css : List (List Value), css.length = xs.length ∧ (∀ k (hk : k < css.length) (hx : k < xs.length), r.ok B w css[k] xs[k]) ∧ (∀ cs ∈ css, cs.length = r.size) ∧
    (∀ ad, a = some ad → ∀ j u, css.flatten[j]? = some u → w.cell? (ad.add j) = some u) ∧ (a = none → n = 0) := by
  obtain ⟨css, hl, hp⟩ := exists_list (α := List Value) (n := xs.length) (fun i cs => (∃ h : i < xs.length, r.ok B w cs xs[i]) ∧ ∃ b o, a = some ⟨b, o, none⟩ ∧ ∀ j (hj : j < cs.length), w.cell? ⟨b, o + i * r.size + j, none⟩ = some cs[j]) (fun i hi => by
    obtain ⟨b, o, cs, ha, hr, hc⟩ := h.at_ i hi
    exact ⟨cs, ⟨hi, hr⟩, b, o, ha, fun j hj => (hc j hj).cell⟩)
  have hsz : ∀ cs ∈ css, cs.length = r.size := fun cs hcs => by
    obtain ⟨k, hk, rfl⟩ := List.getElem_of_mem hcs
    obtain ⟨⟨_, h1⟩, _⟩ := hp k hk
    exact r.len h1
  refine ⟨css, hl, fun k hk hx => (hp k hk).1.2, hsz, fun ad ha j u hu => ?_, fun e => by have := h.nil e; have := h.cap; omega⟩
  have key : ∀ (css' : List (List Value)) (k0 : Nat), (∀ cs ∈ css', cs.length = r.size) → ∀ j u, css'.flatten[j]? = some u → ∃ k t, ∃ (hk : k < css'.length) (ht : t < css'[k].length), j = k * r.size + t ∧ css'[k][t] = u := by
    intro css'
    induction css' with
    | nil => intro _ _ j u hu; simp at hu
    | cons cs css' ih =>
      intro k0 hs j u hu
      rw [List.flatten_cons] at hu
      by_cases hj : j < cs.length
      · rw [List.getElem?_append_left hj] at hu
        obtain ⟨h1, h2⟩ := List.getElem?_eq_some_iff.1 hu
        exact ⟨0, j, by simp, h1, by simp, h2⟩
      · rw [List.getElem?_append_right (by omega)] at hu
        obtain ⟨k, t, hk, ht, e1, e2⟩ := ih k0 (fun c hc => hs c (List.mem_cons_of_mem _ hc)) _ u hu
        refine ⟨k + 1, t, by simpa using hk, by simpa using ht, ?_, by simpa using e2⟩
        have := hs cs (List.mem_cons_self ..)
        rw [Nat.succ_mul]; omega
  obtain ⟨k, t, hk, ht, rfl, rfl⟩ := key css 0 hsz j u hu
  obtain ⟨_, b, o, ha', hc⟩ := hp k hk
  rw [ha] at ha'
  cases ha'
  have := hc t ht
  by_cases h0 : k * r.size + t = 0
  · rw [h0]; simpa [Addr.add, Nat.add_assoc, h0] using this
  · unfold Addr.add
    rw [if_neg h0]
    show w.cell? ⟨b, o + (k * r.size + t), none⟩ = _
    rw [← Nat.add_assoc]; exact this

/-- a part of a list, its room cut -/
theorem Sl.sub {α : Type} {r : Rd α} {B : Nat} {w : World} {b o n c : Nat} {xs : List α} (h : Sl r B w (some ⟨b, o, none⟩) n c xs) {k l : Nat} (hk : k + l ≤ n) : Sl r B w (some ⟨b, o + k * r.size, none⟩) l l ((xs.drop k).take l) :=
  ⟨by rw [List.length_take, List.length_drop, h.len]; omega, Nat.le_refl _, by have := h.most; have := h.cap; omega, fun e => (by cases e), fun i hi => by
    have hi' : i < l := by rw [List.length_take] at hi; omega
    obtain ⟨b', o', cs, ha, hr, hc⟩ := h.at_ (k + i) (by rw [h.len]; omega)
    cases ha
    refine ⟨b, o + k * r.size, cs, rfl, by rw [List.getElem_take, List.getElem_drop]; exact hr, fun j hj => ?_⟩
    have := hc j hj
    rwa [show o + k * r.size + i * r.size + j = o + (k + i) * r.size + j by rw [Nat.add_mul]; omega]⟩
theorem Sl.empty {α : Type} (r : Rd α) (B : Nat) (w : World) (a : Option Addr) : Sl r B w a 0 0 [] := ⟨rfl, Nat.le_refl _, by omega, fun _ => rfl, fun i hi => absurd hi (by simp)⟩

/-- a list that is made of words of an older world -/
theorem Grp.free {α : Type} {r : Rd α} (hr : ∀ B w B' w' cs x, r.ok B w cs x → r.ok B' w' cs x) {B : Nat} {e : TypeId} {w : World} {v : Value} {n : Nat} {xs : List α} {css : List (List Value)} (h1 : css.length = n) (h2 : xs.length = n) (h3 : w.ownsRow B e r.size v n css.flatten) (h4 : ∀ k (hk : k < css.length) (hx : k < xs.length), r.ok 0 w css[k] xs[k]) (hB : B ≤ w.heap.size) : Grp r B e w v n xs css :=
  ⟨h1, h2, h3, fun k hk hx => ⟨w, w.heap.size, hB, hr _ _ _ _ _ _ (h4 k hk hx), Nat.le_refl _, fun b q1 q2 => by omega⟩⟩

/-- a matrix in new memory -/
def RFrom (w : World) (D : Nat) (zss : List (List Int)) (e : Ending) (w' : World) : Prop := ∃ a n c a2 n2 c2, e = .returned (.agg #[.bool false, .slice a n c, .slice a2 n2 c2]) ∧ NatS w.heap.size w' a n c (limbs D) ∧ Sl rRowsN w.heap.size w' a2 n2 c2 zss ∧ Ext w w'
end Go.Proofs.YtbhenelehhiakaaGreat
