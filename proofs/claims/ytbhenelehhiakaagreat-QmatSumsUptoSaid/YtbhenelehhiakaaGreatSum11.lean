/-
  A list that is made by appending: its own block, and where its elements' own data lie.
-/
import Derived.Laws.AppendOwn
import Derived.Laws.OwnMore
import Derived.Test.YtbhenelehhiakaaGreatSum2
set_option linter.unusedVariables false
set_option linter.unusedSimpArgs false
namespace Go.Proofs.YtbhenelehhiakaaGreat
open Go.RowKit

theorem flat_get {css : List (List Value)} {s : Nat} (h : ∀ cs ∈ css, cs.length = s) : ∀ {k j : Nat} (hk : k < css.length) (hj : j < css[k].length), css.flatten[k * s + j]? = some css[k][j] := by
  induction css with
  | nil => intro k j hk; simp at hk
  | cons c css ih =>
    intro k j hk hj
    have hc : c.length = s := h c (List.mem_cons_self ..)
    cases k with
    | zero =>
      simp only [List.getElem_cons_zero] at hj ⊢
      simp only [List.flatten_cons, Nat.zero_mul, Nat.zero_add]
      rw [List.getElem?_append_left hj, List.getElem?_eq_getElem hj]
    | succ k =>
      simp only [List.getElem_cons_succ] at hj ⊢
      have := ih (fun cs hcs => h cs (List.mem_cons_of_mem _ hcs)) (k := k) (j := j) (by simpa using hk) hj
      rw [List.flatten_cons, List.getElem?_append_right (by rw [hc, Nat.succ_mul]; omega), ← this]
      congr 1
      rw [hc, Nat.succ_mul]; omega

structure Grp {α : Type} (r : Rd α) (B : Nat) (e : TypeId) (w : World) (v : Value) (n : Nat) (xs : List α) (css : List (List Value)) : Prop where
  len : css.length = n
  xlen : xs.length = n
  own : w.ownsRow B e r.size v n css.flatten
  parts : ∀ k (hk : k < css.length) (hx : k < xs.length), ∃ (Wk : World) (Bk : Nat), B ≤ Bk ∧ r.ok Bk Wk css[k] xs[k] ∧ Wk.heap.size ≤ w.heap.size ∧ ∀ b, Bk ≤ b → b < Wk.heap.size → w.heap[b]? = Wk.heap[b]? ∧ v.ownBlock ≠ some b

theorem kept_int {B : Nat} {w w' : World} (h : ∀ b, B ≤ b → b < w.heap.size → w'.heap[b]? = w.heap[b]?) : Kept B w w' := fun b o v hc => by
  have e := h b hc.ge (cel_lt hc)
  exact ⟨hc.ge, (World.cell?_of_block (a := ⟨b, o, none⟩) e).trans hc.cell, (World.frozen?_of_block (a := ⟨b, o, none⟩) e).trans hc.free⟩

/-- what changes no block from B on keeps the list -/
theorem Grp.keep {α : Type} {r : Rd α} {B : Nat} {e : TypeId} {w w' : World} {v : Value} {n : Nat} {xs : List α} {css : List (List Value)} (h : Grp r B e w v n xs css) (hs : w.heap.size ≤ w'.heap.size) (hb : ∀ b, B ≤ b → b < w.heap.size → w'.heap[b]? = w.heap[b]?) : Grp r B e w' v n xs css :=
  ⟨h.len, h.xlen, ⟨h.own.1, by
    rcases h.own.2 with h0 | ⟨g, cap, cur, h1, h2, h3, h4⟩
    · exact .inl h0
    · exact .inr ⟨g, cap, cur, h1, h2, (hb g h2 (Array.getElem?_eq_some_iff.1 h3).1).trans h3, h4⟩⟩, fun k hk hx => by
    obtain ⟨Wk, Bk, p1, p2, p3, p4⟩ := h.parts k hk hx
    refine ⟨Wk, Bk, p1, p2, Nat.le_trans p3 hs, fun b h1 h2 => ⟨?_, (p4 b h1 h2).2⟩⟩
    exact (hb b (Nat.le_trans p1 h1) (Nat.lt_of_lt_of_le h2 p3)).trans (p4 b h1 h2).1⟩

theorem Grp.nil {α : Type} (r : Rd α) (B : Nat) (e : TypeId) (w : World) : Grp r B e w (.slice none 0 0) 0 [] [] := ⟨rfl, rfl, World.ownsRow_nil _ _ _ _, fun k hk => absurd hk (by simp)⟩

theorem Grp.add {α : Type} {r : Rd α} {B : Nat} {e : TypeId} {w w' : World} {v v' : Value} {n : Nat} {xs : List α} {css : List (List Value)} {x : α} {cs : List Value} {Bx : Nat} (h : Grp r B e w v n xs css)
    (hown : w'.ownsRow B e r.size v' (n + 1) (css.flatten ++ cs)) (hg : w.grownBy w' v.ownBlock) (hat : v'.ownBlock = v.ownBlock ∨ v'.ownBlock = some w.heap.size)
    (hx : r.ok Bx w cs x) (hB : B ≤ Bx) (hBx : ∀ g, v.ownBlock = some g → g < Bx) : Grp r B e w' v' (n + 1) (xs ++ [x]) (css ++ [cs]) :=
  ⟨by rw [List.length_append, h.len]; rfl, by rw [List.length_append, h.xlen]; rfl, by rw [List.flatten_append]; simpa using hown, fun k hk hkx => by
    have fin : ∀ (Wk : World) (Bk : Nat), Wk.heap.size ≤ w.heap.size → (∀ b, Bk ≤ b → b < Wk.heap.size → w.heap[b]? = Wk.heap[b]? ∧ v.ownBlock ≠ some b) → ∀ b, Bk ≤ b → b < Wk.heap.size → w'.heap[b]? = Wk.heap[b]? ∧ v'.ownBlock ≠ some b := fun Wk Bk p3 p4 b h1 h2 => by
      obtain ⟨q1, q2⟩ := p4 b h1 h2
      refine ⟨(hg.block b (Nat.lt_of_lt_of_le h2 p3) (fun e => q2 e.symm)).trans q1, ?_⟩
      rcases hat with hat | hat
      · rw [hat]; exact q2
      · rw [hat]; intro e; cases e; omega
    by_cases hkn : k < css.length
    · obtain ⟨Wk, Bk, p1, p2, p3, p4⟩ := h.parts k hkn (by rw [h.xlen, ← h.len]; exact hkn)
      refine ⟨Wk, Bk, p1, ?_, Nat.le_trans p3 hg.size, fin Wk Bk p3 p4⟩
      rw [List.getElem_append_left hkn, List.getElem_append_left (by rw [h.xlen, ← h.len]; exact hkn)]
      exact p2
    · have e1 : k = css.length := by rw [List.length_append] at hk; simp at hk; omega
      refine ⟨w, Bx, hB, ?_, hg.size, fin w Bx (Nat.le_refl _) (fun b h1 _ => ⟨rfl, fun e => by have := hBx b e; omega⟩)⟩
      rw [List.getElem_append_right (by omega), List.getElem_append_right (by rw [h.xlen, ← h.len]; omega)]
      simpa using hx⟩

theorem Grp.sl {α : Type} {r : Rd α} {B : Nat} {e : TypeId} {w : World} {v : Value} {n : Nat} {xs : List α} {css : List (List Value)} (h : Grp r B e w v n xs css) : ∃ a c, v = .slice a n c ∧ Sl r B w a n c xs := by
  have hl : ∀ cs ∈ css, cs.length = r.size := fun cs hcs => by
    obtain ⟨k, hk, rfl⟩ := List.getElem_of_mem hcs
    obtain ⟨Wk, Bk, _, p2, _⟩ := h.parts k hk (by rw [h.xlen, ← h.len]; exact hk)
    exact r.len p2
  rcases h.own.2 with ⟨h0, h1⟩ | ⟨g, cap, cur, h1, h2, h3, h4, h5, h6, h7⟩
  · subst h1
    refine ⟨none, 0, h0, h.xlen, Nat.le_refl _, by omega, fun _ => rfl, fun i hi => absurd hi (by rw [h.xlen]; omega)⟩
  · refine ⟨some ⟨g, 0, none⟩, cap, h1, h.xlen, h4, h5, fun e => (by cases e), fun i hi => ?_⟩
    have hic : i < css.length := by rw [h.len, ← h.xlen]; exact hi
    obtain ⟨Wk, Bk, p1, p2, p3, p4⟩ := h.parts i hic hi
    refine ⟨g, 0, css[i], rfl, r.mono p2 p1 (kept_int fun b q1 q2 => (p4 b q1 q2).1), fun j hj => ?_⟩
    have hf := flat_get hl hic hj
    have hown : w.ownsRow B e r.size (.slice (some ⟨g, 0, none⟩) n cap) n css.flatten := by rw [← h1]; exact h.own
    have hlt : i * r.size + j < n * r.size := by
      have := (List.getElem?_eq_some_iff.1 hf).1
      rw [h.own.1] at this; exact this
    exact ⟨h2, by rw [Nat.zero_add]; exact (hown.cellAt (i * r.size + j) hlt).trans hf, hown.frozenAt _⟩

theorem make_any {P : Program} {t e : TypeId} {z : Value} {s by_ : Nat} (ht : P.underlying t = some (.slice e)) (hi : (P.info? e).map (fun i => (i.zero, i.size, i.bytes)) = some (some z, s, by_)) (n m : Nat) (hn : n ≤ m) (hm : m ≤ 8796093022208) (hb : m * by_ ≤ 140737488355328) : ∃ cs : Array Value, cs.size = m * s ∧ ∀ w : World,
    (Instr.makeSlice t (.int .i64 (n : Int)) (.int .i64 (m : Int))).run P w = .ok (.slice (some ⟨w.heap.size, 0, none⟩) n m) (w.alloc (.cells cs e)) := by
  obtain ⟨i0, h1, h2, h3, h4⟩ := info_parts hi
  refine ⟨madeCells z.cells (m * i0.size), by rw [h3]; simp [madeCells], fun w => ?_⟩
  have hmb : (i0.bytes : Int) * (m : Int) ≤ 281474976710656 := by
    rw [h4, ← Int.natCast_mul, Nat.mul_comm]
    omega
  have := run_make (P := P) w t e i0 _ ht h1 h2 .i64 .i64 (n : Int) (m : Int) (by omega) (by omega) hmb (by omega)
  rw [this]
  simp

/-- an integer in normal form -/
def rIntN : Rd Int where
  size := 2
  ok B w cs z := ∃ a n c, cs = [.bool (decide (z < 0)), .slice a n c] ∧ NatS B w a n c (limbs z.natAbs)
  len h := by obtain ⟨a, n, c, h, _⟩ := h; rw [h]; rfl
  mono h hB hk := by
    obtain ⟨a, n, c, h, hs⟩ := h
    exact ⟨a, n, c, h, hs.mono hB hk⟩

/-- rows of integers in normal form -/
def rRowsN : Rd (List Int) := rIntN.slice
end Go.Proofs.YtbhenelehhiakaaGreat
