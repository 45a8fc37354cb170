/-
  Tables of fractions that are written in place; what is read beside them.
-/
import Derived.Test.YtbhenelehhiakaaGreatSum37
import Derived.Test.YtbhenelehhiakaaGreatSum21
import Derived.Test.YtbhenelehhiakaaGreatSum35
set_option linter.unusedVariables false
set_option linter.unusedSimpArgs false
namespace Go.Proofs.YtbhenelehhiakaaGreat
open Go.RowKit

theorem frozenE {w w' : World} (hE : Ext w w') {p : Addr} {v : Value} (hc : w.cell? p = some v) (h : w.frozen? p = false) : w'.frozen? p = false := (hE.frozen (World.block_lt_of_cell? _ _ hc)).trans h
/-- a table that may be written: its rows' blocks F, its entries f -/
def Tab (K B : Nat) (w : World) (a : Option Addr) (r c m : Nat) (F : List Nat) (f : Nat → Nat → Rat) : Prop := ∃ L, MG K B w a r c m L ∧ L.map Prod.fst = F ∧ L.map Prod.snd = tabQ f r m
def updF (f : Nat → Nat → Rat) (i k : Nat) (q : Rat) : Nat → Nat → Rat := fun i' k' => if i' = i ∧ k' = k then q else f i' k'
/-- the entries up to row i, column k are G's, the others X's -/
def part (G X : Nat → Nat → Rat) (i k : Nat) : Nat → Nat → Rat := fun i' k' => if i' < i ∨ (i' = i ∧ k' < k) then G i' k' else X i' k'
theorem part_upd (G X : Nat → Nat → Rat) (i k : Nat) : updF (part G X i k) i k (G i k) = part G X i (k + 1) := by
  funext i' k'
  unfold updF part
  by_cases h : i' = i ∧ k' = k
  · obtain ⟨rfl, rfl⟩ := h
    rw [if_pos ⟨rfl, rfl⟩, if_pos (.inr ⟨rfl, by omega⟩)]
  · rw [if_neg h]
    by_cases h2 : i' < i ∨ (i' = i ∧ k' < k)
    · rw [if_pos h2, if_pos (by omega)]
    · rw [if_neg h2, if_neg (by omega)]
theorem part_row (G X : Nat → Nat → Rat) (i m : Nat) (i' k' : Nat) (hk : k' < m) : part G X i m i' k' = part G X (i + 1) 0 i' k' := by
  unfold part
  by_cases h : i' < i ∨ (i' = i ∧ k' < m)
  · rw [if_pos h, if_pos (by omega)]
  · rw [if_neg h, if_neg (by omega)]
theorem part_zero (G X : Nat → Nat → Rat) : part G X 0 0 = X := by
  funext i' k'
  unfold part
  rw [if_neg (by omega)]
theorem part_all (G X : Nat → Nat → Rat) (r : Nat) (i' k' : Nat) (hi : i' < r) : part G X r 0 i' k' = G i' k' := by
  unfold part
  rw [if_pos (.inl hi)]
theorem part_at (G X : Nat → Nat → Rat) (i k : Nat) : part G X i k i k = X i k := by
  unfold part
  rw [if_neg (by omega)]
theorem Tab.ext {K B : Nat} {w w' : World} {a : Option Addr} {r c m : Nat} {F : List Nat} {f : Nat → Nat → Rat} (h : Tab K B w a r c m F f) (hE : Ext w w') : Tab K B w' a r c m F f := by
  obtain ⟨L, h1, h2, h3⟩ := h
  exact ⟨L, h1.ext hE, h2, h3⟩
theorem Tab.congr {K B : Nat} {w : World} {a : Option Addr} {r c m : Nat} {F : List Nat} {f g : Nat → Nat → Rat} (h : Tab K B w a r c m F f) (hfg : ∀ i k, i < r → k < m → f i k = g i k) : Tab K B w a r c m F g := by
  obtain ⟨L, h1, h2, h3⟩ := h
  exact ⟨L, h1, h2, by rw [h3]; exact tabQ_congr hfg⟩
theorem Tab.read {K B : Nat} {w : World} {a : Option Addr} {r c m : Nat} {F : List Nat} {f : Nat → Nat → Rat} (h : Tab K B w a r c m F f) : Sl (rRatK K).slice B w a r c (tabQ f r m) := by
  obtain ⟨L, h1, h2, h3⟩ := h
  have := h1.read
  rwa [h3] at this
theorem Tab.weak {K K' B B' : Nat} {w : World} {a : Option Addr} {r c m : Nat} {F : List Nat} {f : Nat → Nat → Rat} (h : Tab K B w a r c m F f) (hK : K ≤ K') (hB : B' ≤ B) : Tab K' B' w a r c m F f := by
  obtain ⟨L, h1, h2, h3⟩ := h
  exact ⟨L, h1.weakK hK hB, h2, h3⟩
/-- rows of fractions in new memory, as a table -/
theorem RRows.tab {K r c : Nat} {qss : List (List Rat)} {w w' : World} {e : Ending} (h : RRows K r c qss w e w') (hl : ∀ qs ∈ qss, qs.length = c) : ∃ a c2 F, e = .returned (.slice a r c2) ∧ Tab K w.heap.size w' a r c2 c F (entQ qss) ∧ qss.length = r ∧ Ext w w' := by
  obtain ⟨a, c2, L, css, B, rfl, h1, h2, hE, _⟩ := h
  have hr : qss.length = r := by rw [← h2, List.length_map]; exact h1.sl.len
  exact ⟨a, c2, _, rfl, ⟨L, h1, rfl, by rw [h2, ← hr, tabQ_ent qss c hl]⟩, hr, hE⟩
theorem RFill.tab {r c : Nat} {w w' : World} {e : Ending} (h : RFill r c w e w') : ∃ a c2 F, e = .returned (.slice a r c2) ∧ Tab 1 w.heap.size w' a r c2 c F (fun _ _ => 0) ∧ Ext w w' := by
  obtain ⟨a, c2, L, rfl, h1, h2, hE⟩ := h
  refine ⟨a, c2, _, rfl, ⟨L, h1, rfl, ?_⟩, hE⟩
  rw [h2]
  unfold tabQ
  refine List.ext_getElem (by simp) fun i h3 h4 => ?_
  rw [List.getElem_map, List.getElem_replicate]
  exact List.ext_getElem (by simp) fun k h5 h6 => by simp

/-- one entry of a table -/
theorem Tab.at_ {K B : Nat} {w : World} {a : Option Addr} {r c m : Nat} {F : List Nat} {f : Nat → Nat → Rat} (h : Tab K B w a r c m F f) {i k : Nat} (hi : i < r) (hk : k < m) : ∃ b o g s1 a1 n1 c1 s2 a2 n2 c2, a = some ⟨b, o, none⟩ ∧ b < w.heap.size ∧ B ≤ g ∧ g < w.heap.size ∧ g ∈ F ∧ b ∉ F ∧ w.cell? ⟨b, o + i, none⟩ = some (.slice (some ⟨g, 0, none⟩) m m) ∧
    (w.cell? ⟨g, k * 4, none⟩ = some (.bool s1) ∧ w.cell? ⟨g, k * 4 + 1, none⟩ = some (.slice a1 n1 c1) ∧ w.cell? ⟨g, k * 4 + 2, none⟩ = some (.bool s2) ∧ w.cell? ⟨g, k * 4 + 3, none⟩ = some (.slice a2 n2 c2)) ∧ (w.frozen? ⟨g, k * 4, none⟩ = false ∧ w.frozen? ⟨g, k * 4 + 1, none⟩ = false ∧ w.frozen? ⟨g, k * 4 + 2, none⟩ = false ∧ w.frozen? ⟨g, k * 4 + 3, none⟩ = false) ∧ RatS K w s1 a1 n1 c1 s2 a2 n2 c2 (f i k) ∧
    ∀ (w2 : World) (cs : List Value) (q : Rat), Tab K B w2 a r c m F f → (rRatK K).ok B w2 cs q → Tab K B (stores w2 g (k * 4) cs) a r c m F (updF f i k q) := by
  have hh := h
  obtain ⟨L, h1, h2, h3⟩ := h
  have hiL : i < L.length := by rw [h1.sl.len]; exact hi
  obtain ⟨b0, o0, cs0, ha, ⟨rfl, hrow⟩, hc0⟩ := h1.sl.at_ i hiL
  obtain ⟨bk, ok, csk, hgk, hqk, hck⟩ := hrow.at_ k (by rw [hrow.len]; exact hk)
  cases hgk
  obtain ⟨s1, a1, n1, c1, s2, a2, n2, c2, rfl, hq⟩ := hqk
  have hq0 : RatS K w s1 a1 n1 c1 s2 a2 n2 c2 (L[i].2[k]'(by rw [hrow.len]; exact hk)) := by
    obtain ⟨l, l2, g1, g2, g3⟩ := hq
    exact ⟨l, l2, Sl.zero g1, Sl.zero g2, g3⟩
  have hfe : (L[i].2[k]'(by rw [hrow.len]; exact hk)) = f i k := by
    have e1 : (L.map Prod.snd)[i]'(by rw [List.length_map]; exact hiL) = (tabQ f r m)[i]'(by rw [length_tabQ]; exact hi) := by simp only [h3]
    rw [List.getElem_map] at e1
    have e2 : (tabQ f r m)[i]'(by rw [length_tabQ]; exact hi) = (List.range m).map fun k => f i k := by unfold tabQ; rw [List.getElem_map, List.getElem_range]
    rw [e2] at e1
    have : L[i].2[k]? = some (f i k) := by rw [e1, List.getElem?_map, List.getElem?_range hk]; rfl
    rw [List.getElem?_eq_getElem (by rw [hrow.len]; exact hk)] at this
    exact Option.some.inj this
  rw [hfe] at hq0
  have key : ∀ j (hj : j < 4), Cel B w L[i].1 (k * 4 + j) ([Value.bool s1, .slice a1 n1 c1, .bool s2, .slice a2 n2 c2][j]'(by simpa using hj)) := fun j hj => by
    have := hck j (by simpa using hj)
    rwa [Nat.zero_add] at this
  have k0 := key 0 (by omega)
  have k1 := key 1 (by omega)
  have k2 := key 2 (by omega)
  have k3 := key 3 (by omega)
  have h0 := hc0 0 (by simp)
  refine ⟨b0, o0, L[i].1, s1, a1, n1, c1, s2, a2, n2, c2, ha, cel_lt h0, k0.ge, cel_lt k0, by rw [← h2]; exact List.mem_map.2 ⟨_, List.getElem_mem _, rfl⟩, fun hm => ?_, by simpa [rRowG] using h0.cell, ⟨k0.cell, k1.cell, k2.cell, k3.cell⟩, ⟨k0.free, k1.free, k2.free, k3.free⟩, hq0, fun w2 cs q ht hok => ?_⟩
  · rw [← h2] at hm
    obtain ⟨x, hx, hb⟩ := List.mem_map.1 hm
    exact h1.out b0 o0 ha x hx hb.symm
  · obtain ⟨L2, g1, g2, g3⟩ := ht
    have hiL2 : i < L2.length := by rw [g1.sl.len]; exact hi
    have hge : L2[i].1 = L[i].1 := by
      have : (L2.map Prod.fst)[i]? = (L.map Prod.fst)[i]? := by rw [g2, h2]
      rw [List.getElem?_map, List.getElem?_map, List.getElem?_eq_getElem hiL2, List.getElem?_eq_getElem hiL] at this
      exact Option.some.inj this
    have := g1.set hiL2 hk hok
    rw [← hge]
    refine ⟨_, this, by rw [map_fst_set, g2], ?_⟩
    rw [List.map_set, g3]
    have e2 : L2[i].2 = (List.range m).map fun k => f i k := by
      have e1 : (L2.map Prod.snd)[i]'(by rw [List.length_map]; exact hiL2) = (tabQ f r m)[i]'(by rw [length_tabQ]; exact hi) := by simp only [g3]
      rw [List.getElem_map] at e1
      rw [e1]; unfold tabQ; rw [List.getElem_map, List.getElem_range]
    show (tabQ f r m).set i (L2[i].2.set k q) = _
    rw [e2]
    unfold tabQ
    refine List.ext_getElem (by simp) fun t h5 h6 => ?_
    have ht : t < r := by simpa using h6
    rw [List.getElem_map, List.getElem_range]
    by_cases hti : t = i
    · subst hti
      rw [List.getElem_set_self]
      refine List.ext_getElem (by simp) fun u h7 h8 => ?_
      rw [List.getElem_map, List.getElem_range]
      unfold updF
      by_cases huk : u = k
      · subst huk; rw [List.getElem_set_self, if_pos ⟨rfl, rfl⟩]
      · rw [List.getElem_set_ne (by omega), List.getElem_map, List.getElem_range, if_neg (by omega)]
    · rw [List.getElem_set_ne (by omega), List.getElem_map, List.getElem_range]
      refine List.map_congr_left fun u _ => ?_
      unfold updF
      rw [if_neg (by omega)]

/-- rows that are read, in memory that is apart from the blocks F -/
def Away (F : List Nat) (w : World) (K B : Nat) (a : Option Addr) (r c : Nat) (qss : List (List Rat)) : Prop := ∃ v : World, v.heap.size ≤ w.heap.size ∧ (∀ g ∈ F, g < B ∨ v.heap.size ≤ g) ∧ Sl (rRatK K).slice B v a r c qss ∧ ∀ b, B ≤ b → b < v.heap.size → w.heap[b]? = v.heap[b]?
theorem Away.ext {F : List Nat} {w w' : World} {K B : Nat} {a : Option Addr} {r c : Nat} {qss : List (List Rat)} (h : Away F w K B a r c qss) (hE : Ext w w') : Away F w' K B a r c qss := by
  obtain ⟨v, h1, h2, h3, h4⟩ := h
  exact ⟨v, Nat.le_trans h1 hE.size, h2, h3, fun b g1 g2 => (hE.block b (Nat.lt_of_lt_of_le g2 h1)).trans (h4 b g1 g2)⟩
theorem Away.set {F : List Nat} {w : World} {K B : Nat} {a : Option Addr} {r c : Nat} {qss : List (List Rat)} (h : Away F w K B a r c qss) {g : Nat} (hg : g ∈ F) (vs : List Value) (off : Nat) : Away F (stores w g off vs) K B a r c qss := by
  obtain ⟨v, h1, h2, h3, h4⟩ := h
  have hgr := grownBy_stores (g := g) vs w off
  exact ⟨v, Nat.le_trans h1 hgr.size, h2, h3, fun b g1 g2 => (hgr.block b (Nat.lt_of_lt_of_le g2 h1) (fun e => by cases e; have := h2 _ hg; omega)).trans (h4 b g1 g2)⟩
/-- what was read before the table was made -/
theorem away_old {K B : Nat} {F : List Nat} {w w' : World} {a : Option Addr} {r c : Nat} {qss : List (List Rat)} (h : Sl (rRatK K).slice B w a r c qss) (hE : Ext w w') (hF : ∀ g ∈ F, w.heap.size ≤ g) : Away F w' K B a r c qss :=
  ⟨w, hE.size, fun g hg => .inr (hF g hg), h, fun b _ hb => hE.block b hb⟩
/-- what was read in memory that is newer than the table -/
theorem away_new {K B : Nat} {F : List Nat} {w : World} {a : Option Addr} {r c : Nat} {qss : List (List Rat)} (h : Sl (rRatK K).slice B w a r c qss) (hF : ∀ g ∈ F, g < B) : Away F w K B a r c qss :=
  ⟨w, Nat.le_refl _, fun g hg => .inl (hF g hg), h, fun _ _ _ => rfl⟩
theorem Away.size {F : List Nat} {w : World} {K B : Nat} {a : Option Addr} {r c : Nat} {qss : List (List Rat)} (h : Away F w K B a r c qss) : qss.length = r ∧ r ≤ c ∧ c ≤ 9223372036854775807 := by
  obtain ⟨v, _, _, h3, _⟩ := h
  exact ⟨h3.len, h3.cap, h3.most⟩
/-- one entry of rows to be read -/
theorem Away.ent {K B : Nat} {F : List Nat} {w : World} {a : Option Addr} {r c m : Nat} {qss : List (List Rat)} (h : Away F w K B a r c qss) (hl : ∀ qs ∈ qss, qs.length = m) {i k : Nat} (hi : i < r) (hk : k < m) : ∃ b o b7 o7 c7 s1 a1 n1 c1 s2 a2 n2 c2, a = some ⟨b, o, none⟩ ∧ b < w.heap.size ∧ (∀ g ∈ F, b ≠ g ∧ b7 ≠ g) ∧ b7 < w.heap.size ∧ w.cell? ⟨b, o + i, none⟩ = some (.slice (some ⟨b7, o7, none⟩) m c7) ∧ m ≤ c7 ∧
    w.cell? ⟨b7, o7 + k * 4, none⟩ = some (.bool s1) ∧ w.cell? ⟨b7, o7 + k * 4 + 1, none⟩ = some (.slice a1 n1 c1) ∧ w.cell? ⟨b7, o7 + k * 4 + 2, none⟩ = some (.bool s2) ∧ w.cell? ⟨b7, o7 + k * 4 + 3, none⟩ = some (.slice a2 n2 c2) ∧ RatS K w s1 a1 n1 c1 s2 a2 n2 c2 (entQ qss i k) := by
  obtain ⟨v, hs, hF, h, hb⟩ := h
  have hil : i < qss.length := by rw [h.len]; exact hi
  obtain ⟨b, o, cs, ha, ⟨a8, n8, c8, rfl, hrow⟩, hc⟩ := h.at_ i hil
  have hn8 : n8 = m := by rw [← hrow.len]; exact hl _ (List.getElem_mem _)
  subst hn8
  have hkl : k < qss[i].length := by rw [hrow.len]; exact hk
  obtain ⟨b7, o7, cs7, ha8, ⟨s7, a9, n9, c9, s8, a10, n10, c10, rfl, l, l2, g1, g2, g3⟩, hc7⟩ := hrow.at_ k hkl
  subst ha8
  have x0 : Cel B v b (o + i) (.slice (some ⟨b7, o7, none⟩) n8 c8) := by simpa [Rd.slice] using hc 0 (by simp)
  have e0 := hc7 0 (by simp)
  have hkp : Kept B v w := kept_int fun b hb1 hb2 => hb b hb1 hb2
  have he : entQ qss i k = qss[i][k] := by unfold entQ; rw [List.getElem?_eq_getElem hil]; show (qss[i][k]?).getD 0 = _; rw [List.getElem?_eq_getElem hkl]; rfl
  rw [he]
  refine ⟨b, o, b7, o7, c8, s7, a9, n9, c9, s8, a10, n10, c10, ha, Nat.lt_of_lt_of_le (cel_lt x0) hs, fun g hg => ?_, Nat.lt_of_lt_of_le (cel_lt e0) hs, (hkp _ _ _ x0).cell, hrow.cap, (hkp _ _ _ e0).cell, (hkp _ _ _ (hc7 1 (by simp))).cell, (hkp _ _ _ (hc7 2 (by simp))).cell, (hkp _ _ _ (hc7 3 (by simp))).cell, l, l2, Sl.zero (g1.mono (Nat.le_refl _) hkp), Sl.zero (g2.mono (Nat.le_refl _) hkp), g3⟩
  have q1 := hF g hg
  have q2 := cel_lt x0
  have q3 := x0.ge
  have q4 := cel_lt e0
  have q5 := e0.ge
  exact ⟨by omega, by omega⟩
/-- one row of a table -/
theorem Tab.row {K B : Nat} {w : World} {a : Option Addr} {r c m : Nat} {F : List Nat} {f : Nat → Nat → Rat} (h : Tab K B w a r c m F f) {i : Nat} (hi : i < r) : ∃ b o g, a = some ⟨b, o, none⟩ ∧ b < w.heap.size ∧ w.cell? ⟨b, o + i, none⟩ = some (.slice (some ⟨g, 0, none⟩) m m) := by
  obtain ⟨L, h1, h2, h3⟩ := h
  obtain ⟨b0, o0, cs0, ha, ⟨rfl, hrow⟩, hc0⟩ := h1.sl.at_ i (by rw [h1.sl.len]; exact hi)
  have h0 := hc0 0 (by simp)
  exact ⟨b0, o0, _, ha, cel_lt h0, by simpa [rRowG] using h0.cell⟩
end Go.Proofs.YtbhenelehhiakaaGreat
