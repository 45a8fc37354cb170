/-
  A made block that is filled from the front is a list that grows: stores in place of appends. Rows of fractions that may be written. fill.
-/
import Derived.Test.YtbhenelehhiakaaGreatVct6
import Derived.Deep.RegionLaw
set_option linter.unusedVariables false
set_option linter.unusedSimpArgs false
namespace Go.Proofs.YtbhenelehhiakaaGreat
open Go.RowKit
def stores (w : World) (g : Nat) : Nat → List Value → World
 | _, [] => w
 | off, v :: vs => stores (w.setCell ⟨g, off, none⟩ v) g (off + 1) vs
def putAll (c : Array Value) : Nat → List Value → Array Value
 | _, [] => c
 | off, v :: vs => putAll (c.setIfInBounds off v) (off + 1) vs
theorem size_putAll (vs : List Value) : ∀ (c : Array Value) (off : Nat), (putAll c off vs).size = c.size := by
 induction vs with
 | nil => intro c off; rfl
 | cons v vs ih => intro c off; rw [putAll, ih]; simp
theorem take_putAll (vs : List Value) : ∀ (c : Array Value) (off : Nat), off + vs.length ≤ c.size → (putAll c off vs).toList.take (off + vs.length) = c.toList.take off ++ vs := by
 induction vs with
 | nil => intro c off _; simp [putAll]
 | cons v vs ih =>
  intro c off h
  simp only [List.length_cons] at h
  rw [putAll, List.length_cons, show off + (vs.length + 1) = off + 1 + vs.length by omega, ih _ _ (by simp; omega)]
  have e : (c.setIfInBounds off v).toList.take (off + 1) = c.toList.take off ++ [v] := by
   rw [Array.toList_setIfInBounds, List.take_succ_eq_append_getElem (by simp; omega)]
   rw [List.take_set_of_le (by omega)]
   simp
  rw [e]; simp
theorem Blk.stores {g : Nat} {t : TypeId} (vs : List Value) : ∀ {w : World} {c : Array Value} (off : Nat), Blk w g t c → Blk (Proofs.YtbhenelehhiakaaGreat.stores w g off vs) g t (putAll c off vs) := by
 induction vs with
 | nil => intro w c off h; exact h
 | cons v vs ih => intro w c off h; exact ih (off + 1) (h.set off v)
theorem grownBy_stores {g : Nat} (vs : List Value) : ∀ (w : World) (off : Nat), w.grownBy (stores w g off vs) (some g) := by
 induction vs with
 | nil => intro w off; exact World.grownBy.refl w _
 | cons v vs ih => intro w off; exact grownBy_trans (grownBy_setCell w g off v) (ih _ _)
theorem ownsRow_put {w : World} {base e s g k cap : Nat} {xs cs : List Value} (h : w.ownsRow base e s (.slice (some ⟨g, 0, none⟩) k cap) k xs) (hk : k < cap) (hs : cs.length = s) : (stores w g (k * s) cs).ownsRow base e s (.slice (some ⟨g, 0, none⟩) (k + 1) cap) (k + 1) (xs ++ cs) := by
 obtain ⟨h1, h2⟩ := h
 rcases h2 with ⟨h2, _⟩ | ⟨g', cap', cur, h2, h3, h4, h5, h6, h7, h8⟩
 ·cases h2
 ·cases h2
  have hb : Blk w g e cur := h4
  have hlt : (k + 1) * s ≤ cap * s := Nat.mul_le_mul_right _ hk
  rw [Nat.succ_mul] at hlt
  refine ⟨by rw [List.length_append, h1, hs, Nat.succ_mul], .inr ⟨g, cap, putAll cur (k * s) cs, rfl, h3, hb.stores cs (k * s), hk, h6, by rw [size_putAll, h7], ?_⟩⟩
  have := take_putAll cs cur (k * s) (by rw [hs, h7]; exact hlt)
  rw [hs, h8] at this
  rw [Nat.succ_mul]; exact this
theorem Grp.put {α : Type} {r : Rd α} {B e g k cap : Nat} {w : World} {xs : List α} {css : List (List Value)} {x : α} {cs : List Value} {Bx : Nat} (h : Grp r B e w (.slice (some ⟨g, 0, none⟩) k cap) k xs css) (hk : k < cap) (hx : r.ok Bx w cs x) (hB : B ≤ Bx) (hBx : g < Bx) :
  Grp r B e (stores w g (k * r.size) cs) (.slice (some ⟨g, 0, none⟩) (k + 1) cap) (k + 1) (xs ++ [x]) (css ++ [cs]) :=
 h.add (ownsRow_put h.own hk (r.len hx)) (by simpa [Value.ownBlock] using grownBy_stores cs w (k * r.size)) (.inl (by simp [Value.ownBlock])) hx hB (fun g' e => by
  simp [Value.ownBlock] at e; omega)
theorem Grp.cell {α : Type} {r : Rd α} {B e g k cap : Nat} {w : World} {xs : List α} {css : List (List Value)} (h : Grp r B e w (.slice (some ⟨g, 0, none⟩) k cap) k xs css) : g < w.heap.size ∧ B ≤ g ∧ ∀ j, j < cap * r.size → (∃ u, w.cell? ⟨g, j, none⟩ = some u) ∧ w.frozen? ⟨g, j, none⟩ = false := by
 rcases h.own.2 with ⟨h2, _⟩ | ⟨g', cap', cur, h2, h3, h4, h5, h6, h7, h8⟩
 ·cases h2
 ·cases h2
  have hb : Blk w g e cur := h4
  exact ⟨hb.lt, h3, fun j hj => ⟨⟨cur[j]'(by omega), hb.cell (Array.getElem?_eq_getElem (by omega))⟩, hb.free j⟩⟩
def rRowG (K m : Nat) : Rd (Nat × List Rat) where
 size := 1
 ok B w cs x := cs = [.slice (some ⟨x.1, 0, none⟩) m m] ∧ Sl (rRatK K) B w (some ⟨x.1, 0, none⟩) m m x.2
 len h := by rw [h.1]; rfl
 mono h hB hk := ⟨h.1, h.2.mono hB hk⟩
structure MG (K B : Nat) (w : World) (a : Option Addr) (n c m : Nat) (L : List (Nat × List Rat)) : Prop where
 sl : Sl (rRowG K m) B w a n c L
 out : ∀ b o, a = some ⟨b, o, none⟩ → ∀ x ∈ L, b ≠ x.1
 inj : (L.map Prod.fst).Pairwise (· ≠ ·)
theorem info_rat : (Tryz.prog.info? 75).map (fun i => (i.zero, i.size, i.bytes)) = some (some (.agg #[.bool false, .slice none 0 0, .bool false, .slice none 0 0]), 4, 64) := by kernel_rfl
theorem info_rats : (Tryz.prog.info? 68).map (fun i => (i.zero, i.size, i.bytes)) = some (some (.slice none 0 0), 1, 24) := by kernel_rfl
theorem under_rats : Tryz.prog.underlying 68 = some (.slice 75) := by kernel_rfl
theorem under_ratss : Tryz.prog.underlying 53 = some (.slice 68) := by kernel_rfl
end Go.Proofs.YtbhenelehhiakaaGreat
namespace Go.Proofs.YtbhenelehhiakaaGreat
open Go.RowKit
def rIntB : Rd Int where
 size := 2
 ok B w cs z := ∃ b a n c l, cs = [.bool b, .slice a n c] ∧ NatS B w a n c l ∧ ival b l = z ∧ n ≤ 8796093022208
 len h := by obtain ⟨b, a, n, c, l, h, _⟩ := h; rw [h]; rfl
 mono h hB hk := by
  obtain ⟨b, a, n, c, l, h, hs, hz, hn⟩ := h
  exact ⟨b, a, n, c, l, h, hs.mono hB hk, hz, hn⟩
end Go.Proofs.YtbhenelehhiakaaGreat
namespace Go.Proofs.YtbhenelehhiakaaGreat
open Go.RowKit
theorem ratK_of {K B : Nat} {w : World} {a a2 : Option Addr} {n c n2 c2 : Nat} {q : Rat} (h : NatS B w a n c (limbs q.num.natAbs)) (h2 : NatS B w a2 n2 c2 (limbs q.den)) (hK : nl q.num.natAbs ≤ K) (hK2 : nl q.den ≤ K) (b : Bool) (hb : decide (q.num < 0) = b) : (rRatK K).ok B w [.bool b, .slice a n c, .bool false, .slice a2 n2 c2] q := by
 subst hb
 refine ⟨_, a, n, c, _, a2, n2, c2, rfl, _, _, h, h2, ?_, ?_, ?_, ?_⟩
 ·rw [ival_limbs]; simp; have := q.den_pos; omega
 ·rw [ival_norm, ival_limbs]; exact ratv_self q
 ·have := h.len; rw [length_limbs] at this; omega
 ·have := h2.len; rw [length_limbs] at this; omega
theorem ext_set4' {w w' : World} {b : Nat} (h : Ext w w') (o : Nat) (v0 v1 v2 v3 : Value) (hb : w.heap.size ≤ b := by first | exact Nat.le_refl _ | omega) : Ext w ((((w'.setCell ⟨b, o, none⟩ v0).setCell ⟨b, o + 1, none⟩ v1).setCell ⟨b, o + 2, none⟩ v2).setCell ⟨b, o + 3, none⟩ v3) :=
 Below.setCell (Below.setCell (Below.setCell (Below.setCell h (p := ⟨b, o, none⟩) hb _) (p := ⟨b, o + 1, none⟩) hb _) (p := ⟨b, o + 2, none⟩) hb _) (p := ⟨b, o + 3, none⟩) hb _
theorem own_head {w : World} {base e s n k c : Nat} {b o : Nat} {xs : List Value} (h : w.ownsRow base e s (.slice (some ⟨b, o, none⟩) k c) n xs) : (Value.slice (some ⟨b, o, none⟩) k c).ownBlock = some b := by
 rcases h.2 with ⟨h0, _⟩ | ⟨g, cap, cur, h1, _⟩
 ·cases h0
 ·cases h1; simp [Value.ownBlock]
def RFill (r c : Nat) (w : World) (e : Ending) (w' : World) : Prop := ∃ a c2 L, e = .returned (.slice a r c2) ∧ MG 1 w.heap.size w' a r c2 c L ∧ L.map Prod.snd = List.replicate r (List.replicate c (0 : Rat)) ∧ Ext w w'
end Go.Proofs.YtbhenelehhiakaaGreat
namespace Go.Proofs.YtbhenelehhiakaaGreat
open Go.RowKit
theorem exists_list {α : Type} {n : Nat} (P : Nat → α → Prop) (h : ∀ i, i < n → ∃ x, P i x) : ∃ l : List α, l.length = n ∧ ∀ i (hi : i < l.length), P i l[i] := by
 induction n with
 | zero => exact ⟨[], rfl, fun i hi => absurd hi (by simp)⟩
 | succ n ih =>
  obtain ⟨l, hl, hp⟩ := ih (fun i hi => h i (by omega))
  obtain ⟨x, hx⟩ := h n (by omega)
  refine ⟨l ++ [x], by simp [hl], fun i hi => ?_⟩
  by_cases hin : i < l.length
  ·rw [List.getElem_append_left hin]; exact hp i hin
  ·rw [List.getElem_append_right (by omega)]
   have : i = n := by simp at hi; omega
   subst this
   simpa [hl] using hx
theorem grid_of {B : Nat} {w : World} {a : Option Addr} {n c : Nat} {zss : List (List Int)} (h : Sl rIntB.slice B w a n c zss) (hn : n ≤ 1099511627776) (hr : ∀ zs ∈ zss, zs.length ≤ 1099511627776) : ∃ xss : List (List (IntAt w)), GridAt w a n c xss ∧ zssOf xss = zss := by
 have row : ∀ (a1 : Option Addr) (n1 c1 : Nat) (zs : List Int), Sl rIntB B w a1 n1 c1 zs → n1 ≤ 1099511627776 → ∃ xs : List (IntAt w), RowAt w a1 n1 c1 xs ∧ xs.map IntAt.z = zs := fun a1 n1 c1 zs hz h1 => by
  obtain ⟨xs, hl, hp⟩ := exists_list (α := IntAt w) (n := n1) (fun k x => ∃ b o, a1 = some ⟨b, o, none⟩ ∧ b < w.heap.size ∧ w.cell? ⟨b, o + k * 2, none⟩ = some (.bool x.b) ∧ w.cell? ⟨b, o + k * 2 + 1, none⟩ = some (.slice x.a x.n x.c) ∧ zs[k]? = some x.z) (fun k hk => by
   have hkl : k < zs.length := by rw [hz.len]; exact hk
   obtain ⟨b, o, cs, ha, ⟨s, a2, n2, c2, l, rfl, h3, h4, h5⟩, hc⟩ := hz.at_ k hkl
   exact ⟨⟨s, a2, n2, c2, l, h3.mono (Nat.zero_le _) (Kept.refl _ _), h5⟩, b, o, ha, cel_lt (hc 0 (by simp)), (hc 0 (by simp)).cell, (hc 1 (by simp)).cell, by rw [List.getElem?_eq_getElem hkl, ← h4]; rfl⟩)
  refine ⟨xs, ⟨hl, h1, fun h0 => ?_⟩, ?_⟩
  ·obtain ⟨b, o, ha, hb, _⟩ := hp 0 (by omega)
   refine ⟨b, o, ha, hb, fun k hk => ?_⟩
   obtain ⟨b', o', ha', _, h6, h7, _⟩ := hp k hk
   rw [ha] at ha'; cases ha'
   exact ⟨h6, h7⟩
  ·refine List.ext_getElem (by rw [List.length_map, hl, hz.len]) fun k h6 h7 => ?_
   obtain ⟨_, _, _, _, _, _, h8⟩ := hp k (by simpa using h6)
   rw [List.getElem?_eq_getElem h7] at h8
   rw [List.getElem_map]
   exact (Option.some.inj h8).symm
 obtain ⟨xss, hl, hp⟩ := exists_list (α := List (IntAt w)) (n := n) (fun i xs => ∃ b o a1 n1 c1, a = some ⟨b, o, none⟩ ∧ b < w.heap.size ∧ w.cell? ⟨b, o + i, none⟩ = some (.slice a1 n1 c1) ∧ RowAt w a1 n1 c1 xs ∧ zss[i]? = some (xs.map IntAt.z)) (fun i hi => by
  have hil : i < zss.length := by rw [h.len]; exact hi
  obtain ⟨b, o, cs, ha, ⟨a1, n1, c1, rfl, hz⟩, hc⟩ := h.at_ i hil
  obtain ⟨xs, h3, h4⟩ := row a1 n1 c1 _ hz (by have := hr _ (List.getElem_mem hil); rw [hz.len] at this; exact this)
  exact ⟨xs, b, o, a1, n1, c1, ha, cel_lt (hc 0 (by simp)), by simpa [Rd.slice] using (hc 0 (by simp)).cell, h3, by rw [List.getElem?_eq_getElem hil, h4]⟩)
 refine ⟨xss, ⟨hl, hn, fun h0 => ?_⟩, ?_⟩
 ·obtain ⟨b, o, _, _, _, ha, hb, _⟩ := hp 0 (by omega)
  refine ⟨b, o, ha, hb, fun i hi => ?_⟩
  obtain ⟨b', o', a1, n1, c1, ha', _, h6, h7, _⟩ := hp i hi
  rw [ha] at ha'; cases ha'
  exact ⟨a1, n1, c1, h6, h7⟩
 ·unfold zssOf
  refine List.ext_getElem (by rw [List.length_map, hl, h.len]) fun i h6 h7 => ?_
  obtain ⟨_, _, _, _, _, _, _, _, _, h8⟩ := hp i (by simpa using h6)
  rw [List.getElem?_eq_getElem h7] at h8
  rw [List.getElem_map]
  exact (Option.some.inj h8).symm
theorem Sl.weak {α : Type} {r s : Rd α} {B B' : Nat} {w : World} {a : Option Addr} {n c : Nat} {xs : List α} (h : Sl r B w a n c xs) (hB : B' ≤ B) (hs : r.size = s.size) (hok : ∀ cs x, r.ok B w cs x → s.ok B' w cs x) : Sl s B' w a n c xs :=
 ⟨h.len, h.cap, h.most, h.nil, fun i hi => by
  obtain ⟨b, o, cs, ha, hr, hc⟩ := h.at_ i hi
  refine ⟨b, o, cs, ha, hok _ _ hr, fun j hj => ?_⟩
  obtain ⟨h1, h2, h3⟩ := hc j hj
  rw [← hs]
  exact ⟨Nat.le_trans hB h1, h2, h3⟩⟩
end Go.Proofs.YtbhenelehhiakaaGreat
namespace Go.Proofs.YtbhenelehhiakaaGreat
open Go.RowKit
def rRatO (w0 : World) (K : Nat) : Rd Rat where
 size := 4
 ok _ _ cs q := ∃ b a n c b2 a2 n2 c2, cs = [.bool b, .slice a n c, .bool b2, .slice a2 n2 c2] ∧ RatS K w0 b a n c b2 a2 n2 c2 q
 len h := by obtain ⟨b, a, n, c, b2, a2, n2, c2, h, _⟩ := h; rw [h]; rfl
 mono h _ _ := h
theorem Sl.cells {α : Type} {r : Rd α} {B : Nat} {w : World} {a : Option Addr} {n c : Nat} {xs : List α} (h : Sl r B w a n c xs) : ∃ css : List (List Value), css.length = xs.length ∧ (∀ k (hk : k < css.length) (hx : k < xs.length), r.ok B w css[k] xs[k]) ∧ (∀ cs ∈ css, cs.length = r.size) ∧
  (∀ ad, a = some ad → ∀ j u, css.flatten[j]? = some u → w.cell? (ad.add j) = some u) ∧ (a = none → n = 0) := by
 obtain ⟨css, hl, hp⟩ := exists_list (α := List Value) (n := xs.length) (fun i cs => (∃ h : i < xs.length, r.ok B w cs xs[i]) ∧ ∃ b o, a = some ⟨b, o, none⟩ ∧ ∀ j (hj : j < cs.length), w.cell? ⟨b, o + i * r.size + j, none⟩ = some cs[j]) (fun i hi => by
  obtain ⟨b, o, cs, ha, hr, hc⟩ := h.at_ i hi
  exact ⟨cs, ⟨hi, hr⟩, b, o, ha, fun j hj => (hc j hj).cell⟩)
 have hsz : ∀ cs ∈ css, cs.length = r.size := fun cs hcs => by
  obtain ⟨k, hk, rfl⟩ := List.getElem_of_mem hcs
  obtain ⟨⟨_, h1⟩, _⟩ := hp k hk
  exact r.len h1
 refine ⟨css, hl, fun k hk hx => (hp k hk).1.2, hsz, fun ad ha j u hu => ?_, fun e => by have := h.nil e; have := h.cap; omega⟩
 have key : ∀ (css' : List (List Value)) (k0 : Nat), (∀ cs ∈ css', cs.length = r.size) → ∀ j u, css'.flatten[j]? = some u → ∃ k t, ∃ (hk : k < css'.length) (ht : t < css'[k].length), j = k * r.size + t ∧ css'[k][t] = u := by
  intro css'
  induction css' with
  | nil => intro _ _ j u hu; simp at hu
  | cons cs css' ih =>
   intro k0 hs j u hu
   rw [List.flatten_cons] at hu
   by_cases hj : j < cs.length
   ·rw [List.getElem?_append_left hj] at hu
    obtain ⟨h1, h2⟩ := List.getElem?_eq_some_iff.1 hu
    exact ⟨0, j, by simp, h1, by simp, h2⟩
   ·rw [List.getElem?_append_right (by omega)] at hu
    obtain ⟨k, t, hk, ht, e1, e2⟩ := ih k0 (fun c hc => hs c (List.mem_cons_of_mem _ hc)) _ u hu
    refine ⟨k + 1, t, by simpa using hk, by simpa using ht, ?_, by simpa using e2⟩
    have := hs cs (List.mem_cons_self ..)
    rw [Nat.succ_mul]; omega
 obtain ⟨k, t, hk, ht, rfl, rfl⟩ := key css 0 hsz j u hu
 obtain ⟨_, b, o, ha', hc⟩ := hp k hk
 rw [ha] at ha'
 cases ha'
 have := hc t ht
 by_cases h0 : k * r.size + t = 0
 ·rw [h0]; simpa [Addr.add, Nat.add_assoc, h0] using this
 ·unfold Addr.add
  rw [if_neg h0]
  show w.cell? ⟨b, o + (k * r.size + t), none⟩ = _
  rw [← Nat.add_assoc]; exact this
theorem Sl.empty {α : Type} (r : Rd α) (B : Nat) (w : World) (a : Option Addr) : Sl r B w a 0 0 [] := ⟨rfl, Nat.le_refl _, by omega, fun _ => rfl, fun i hi => absurd hi (by simp)⟩
theorem Grp.free {α : Type} {r : Rd α} (hr : ∀ B w B' w' cs x, r.ok B w cs x → r.ok B' w' cs x) {B : Nat} {e : TypeId} {w : World} {v : Value} {n : Nat} {xs : List α} {css : List (List Value)} (h1 : css.length = n) (h2 : xs.length = n) (h3 : w.ownsRow B e r.size v n css.flatten) (h4 : ∀ k (hk : k < css.length) (hx : k < xs.length), r.ok 0 w css[k] xs[k]) (hB : B ≤ w.heap.size) : Grp r B e w v n xs css :=
 ⟨h1, h2, h3, fun k hk hx => ⟨w, w.heap.size, hB, hr _ _ _ _ _ _ (h4 k hk hx), Nat.le_refl _, fun b q1 q2 => by omega⟩⟩
def RFrom (w : World) (D : Nat) (zss : List (List Int)) (e : Ending) (w' : World) : Prop := ∃ a n c a2 n2 c2, e = .returned (.agg #[.bool false, .slice a n c, .slice a2 n2 c2]) ∧ NatS w.heap.size w' a n c (limbs D) ∧ Sl rRowsN w.heap.size w' a2 n2 c2 zss ∧ Ext w w'
end Go.Proofs.YtbhenelehhiakaaGreat
namespace Go.Proofs.YtbhenelehhiakaaGreat
open Go.RowKit
def RMatOk (w : World) (de : Int) (zss : List (List Int)) (e : Ending) (w' : World) : Prop := ∃ a n c a2 n2 c2, e = .returned (.tuple #[.agg #[.bool (decide (de < 0)), .slice a n c, .slice a2 n2 c2], .int .i64 0]) ∧ NatS w.heap.size w' a n c (limbs de.natAbs) ∧ Sl rRowsN w.heap.size w' a2 n2 c2 zss ∧ Ext w w'
theorem kept_set3 {B b : Nat} (w : World) (v0 v1 v2 : Value) (hb : b < B) : Kept B w (((w.setCell ⟨b, 0, none⟩ v0).setCell ⟨b, 1, none⟩ v1).setCell ⟨b, 2, none⟩ v2) :=
 Kept.trans (kept_set _ _ _ hb) (Kept.trans (kept_set _ _ _ hb) (kept_set _ _ _ hb))
theorem ext_set3 {w w' : World} {b : Nat} (h : Ext w w') (v0 v1 v2 : Value) (hb : w.heap.size ≤ b) : Ext w (((w'.setCell ⟨b, 0, none⟩ v0).setCell ⟨b, 1, none⟩ v1).setCell ⟨b, 2, none⟩ v2) :=
 Below.setCell (Below.setCell (Below.setCell h (p := ⟨b, 0, none⟩) hb _) (p := ⟨b, 1, none⟩) hb _) (p := ⟨b, 2, none⟩) hb _
theorem RMatOk.box {w w2 : World} {B r : Nat} {de : Int} {zss : List (List Int)} {v0 v1 v2 : Value} {a a2 : Option Addr} {n c n2 c2 : Nat} (hr : w.heap.size ≤ r) (hrB : r < B) (hE : Ext w w2) (h : NatS B w2 a n c (limbs de.natAbs)) (h2 : Sl rRowsN B w2 a2 n2 c2 zss) :
  RMatOk w de zss (.returned (.tuple #[.agg #[.bool (decide (de < 0)), .slice a n c, .slice a2 n2 c2], .int .i64 0])) (((w2.setCell ⟨r, 0, none⟩ v0).setCell ⟨r, 1, none⟩ v1).setCell ⟨r, 2, none⟩ v2) :=
 ⟨a, n, c, a2, n2, c2, rfl, h.mono (by omega) (kept_set3 _ _ _ _ hrB), h2.mono (by omega) (kept_set3 _ _ _ _ hrB), ext_set3 hE _ _ _ hr⟩
end Go.Proofs.YtbhenelehhiakaaGreat
namespace Go.Proofs.YtbhenelehhiakaaGreat
open Go.RowKit
structure AllSt (w : World) (K : Nat) (qs : List Rat) (vo : Value) (wr : World) : Prop where
 ex : ∃ css, Grp (rRatO w K) w.heap.size 75 wr vo qs.length qs css
theorem rRatO_free {w0 : World} {K : Nat} : ∀ B w B' w' cs x, (rRatO w0 K).ok B w cs x → (rRatO w0 K).ok B' w' cs x := fun _ _ _ _ _ _ h => h
theorem AllSt.add {w wr w1 : World} {K : Nat} {qs xs : List Rat} {vo v' : Value} {css2 : List (List Value)} {css : List (List Value)} (hG : Grp (rRatO w K) w.heap.size 75 wr vo qs.length qs css)
  (hl : css2.length = xs.length) (hok : ∀ k (hk : k < css2.length) (hx : k < xs.length), (rRatO w K).ok 0 w css2[k] xs[k]) (hown : w1.ownsRow w.heap.size 75 4 v' (qs.length + xs.length) (css.flatten ++ css2.flatten)) (hs : w.heap.size ≤ w1.heap.size) : AllSt w K (qs ++ xs) v' w1 := by
 refine ⟨css ++ css2, Grp.free rRatO_free (by rw [List.length_append, List.length_append, hG.len, hl]) rfl (by rw [List.flatten_append, List.length_append]; exact hown) (fun k hk hx => ?_) hs⟩
 by_cases hkn : k < css.length
 ·rw [List.getElem_append_left hkn, List.getElem_append_left (by have := hG.len; omega)]
  obtain ⟨Wk, Bk, _, p2, _⟩ := hG.parts k hkn (by have := hG.len; omega)
  exact p2
 ·rw [List.getElem_append_right (by omega), List.getElem_append_right (by have := hG.len; omega)]
  have e : k - css.length = k - qs.length := by have := hG.len; omega
  have := hok (k - css.length) (by rw [List.length_append] at hk; omega) (by rw [List.length_append] at hx; have := hG.len; omega)
  exact rRatO_free 0 w 0 w1 _ _ (by simpa only [e] using this)
end Go.Proofs.YtbhenelehhiakaaGreat
namespace Go.Proofs.YtbhenelehhiakaaGreat
open Go.RowKit
theorem Sl.mapw {α β : Type} {r : Rd α} {s : Rd β} {B B' : Nat} {w : World} {a : Option Addr} {n c : Nat} {xs : List α} (f : α → β) (h : Sl r B w a n c xs) (hB : B' ≤ B) (hs : r.size = s.size) (hok : ∀ cs x, r.ok B w cs x → s.ok B' w cs (f x)) : Sl s B' w a n c (xs.map f) :=
 ⟨by rw [List.length_map]; exact h.len, h.cap, h.most, h.nil, fun i hi => by
  obtain ⟨b, o, cs, ha, hr, hc⟩ := h.at_ i (by simpa using hi)
  refine ⟨b, o, cs, ha, by rw [List.getElem_map]; exact hok _ _ hr, fun j hj => ?_⟩
  obtain ⟨h1, h2, h3⟩ := hc j hj
  rw [← hs]
  exact ⟨Nat.le_trans hB h1, h2, h3⟩⟩
theorem MG.read {K B : Nat} {w : World} {a : Option Addr} {n c m : Nat} {L : List (Nat × List Rat)} (h : MG K B w a n c m L) : Sl (rRatK K).slice B w a n c (L.map Prod.snd) :=
 h.sl.mapw Prod.snd (Nat.le_refl _) rfl fun _ _ ⟨e, hs⟩ => ⟨_, _, _, e, hs⟩
theorem cel_stores {B g : Nat} (vs : List Value) : ∀ {w : World} {off b o : Nat} {v : Value}, Cel B w b o v → (b ≠ g ∨ o < off ∨ off + vs.length ≤ o) → Cel B (stores w g off vs) b o v := by
 induction vs with
 | nil => intro w off b o v h _; exact h
 | cons u vs ih =>
  intro w off b o v h hne
  simp only [List.length_cons] at hne
  refine ih (w := w.setCell ⟨g, off, none⟩ u) ⟨h.ge, ?_, by rw [World.frozen?_setCell]; exact h.free⟩ (by omega)
  rw [World.cell?_setCell_other]
  ·exact h.cell
  ·intro e; cases e; omega
theorem cel_stores_at {B g : Nat} (vs : List Value) : ∀ {w : World} {off : Nat}, (∀ j (hj : j < vs.length), ∃ v, Cel B w g (off + j) v) → ∀ j (hj : j < vs.length), Cel B (stores w g off vs) g (off + j) vs[j] := by
 induction vs with
 | nil => intro w off _ j hj; simp at hj
 | cons u vs ih =>
  intro w off h j hj
  obtain ⟨v0, h0⟩ := h 0 (by simp)
  rw [Nat.add_zero] at h0
  have hset : Cel B (w.setCell ⟨g, off, none⟩ u) g off u := ⟨h0.ge, World.cell?_setCell_same _ _ _ h0.cell, by rw [World.frozen?_setCell]; exact h0.free⟩
  cases j with
  | zero => exact cel_stores vs hset (by omega)
  | succ j =>
   have := ih (w := w.setCell ⟨g, off, none⟩ u) (off := off + 1) (fun k hk => by
    obtain ⟨v, hv⟩ := h (k + 1) (by simpa using hk)
    refine ⟨v, hv.ge, ?_, by rw [World.frozen?_setCell]; have := hv.free; rwa [show off + 1 + k = off + (k + 1) by omega]⟩
    rw [World.cell?_setCell_other]
    ·have := hv.cell; rwa [show off + 1 + k = off + (k + 1) by omega]
    ·intro e; have := congrArg Addr.off e; simp at this; omega) j (by simpa using hj)
   rw [show off + (j + 1) = off + 1 + j by omega]
   exact this
def NoWord (w : World) (g o : Nat) : Prop := ∃ v, w.cell? ⟨g, o, none⟩ = some v ∧ ∀ x : Int, v ≠ .int .u32 x
theorem NatS.stores {B g : Nat} (vs : List Value) : ∀ {w : World} {off : Nat} {a : Option Addr} {n c : Nat} {l : Nt}, NatS B w a n c l → (∀ j, j < vs.length → NoWord w g (off + j)) → NatS B (Proofs.YtbhenelehhiakaaGreat.stores w g off vs) a n c l := by
 induction vs with
 | nil => intro w off a n c l h _; exact h
 | cons u vs ih =>
  intro w off a n c l h hv
  obtain ⟨v0, h0, h1⟩ := hv 0 (by simp)
  refine ih (w := w.setCell ⟨g, off, none⟩ u) (NatS.set h h0 h1 u) (fun j hj => ?_)
  obtain ⟨v, h2, h3⟩ := hv (j + 1) (by simpa using hj)
  refine ⟨v, ?_, h3⟩
  rw [World.cell?_setCell_other]
  ·rwa [show off + 1 + j = off + (j + 1) by omega]
  ·intro e; have := congrArg Addr.off e; simp at this; omega
theorem rRatK_stores {K B g : Nat} (vs : List Value) {w : World} {off : Nat} {cs : List Value} {q : Rat} (h : (rRatK K).ok B w cs q) (hv : ∀ j, j < vs.length → NoWord w g (off + j)) : (rRatK K).ok B (stores w g off vs) cs q := by
 obtain ⟨b, a, n, c, b2, a2, n2, c2, e, l, l2, h1, h2, h3⟩ := h
 exact ⟨b, a, n, c, b2, a2, n2, c2, e, l, l2, NatS.stores vs h1 hv, NatS.stores vs h2 hv, h3⟩
theorem MG.set {K B : Nat} {w : World} {a : Option Addr} {n c m : Nat} {L : List (Nat × List Rat)} (h : MG K B w a n c m L) {i k : Nat} (hi : i < L.length) (hk : k < m) {cs : List Value} {q : Rat} (hq : (rRatK K).ok B w cs q) :
  MG K B (stores w L[i].1 (k * 4) cs) a n c m (L.set i (L[i].1, L[i].2.set k q)) := by
 obtain ⟨b0, o0, cs0, ha, ⟨hcs0, hrow⟩, hc0⟩ := h.sl.at_ i hi
 have hlen4 : cs.length = 4 := (rRatK K).len hq
 obtain ⟨bk, ok, csk, hgk, hqk, hck⟩ := hrow.at_ k (by rw [hrow.len]; exact hk)
 cases hgk
 have hl4 : csk.length = 4 := (rRatK K).len hqk
 have hcel : ∀ j, j < 4 → ∃ v, Cel B w L[i].1 (k * 4 + j) v ∧ ∀ x : Int, v ≠ .int .u32 x := fun j hj => by
  have := hck j (by omega)
  rw [Nat.zero_add] at this
  refine ⟨_, this, ?_⟩
  obtain ⟨b, a, n, c, b2, a2, n2, c2, e, _⟩ := hqk
  subst e
  intro x
  match j, hj with
  | 0, _ => simp
  | 1, _ => simp
  | 2, _ => simp
  | 3, _ => simp
 have hnw : ∀ j, j < cs.length → NoWord w L[i].1 (k * 4 + j) := fun j hj => by
  obtain ⟨v, h1, h2⟩ := hcel j (by omega)
  exact ⟨v, h1.cell, h2⟩
 have hinj : ∀ i' (hi' : i' < L.length), i' ≠ i → L[i'].1 ≠ L[i].1 := fun i' hi' hne => by
  have hp := List.pairwise_iff_getElem.1 h.inj
  rcases Nat.lt_or_gt_of_ne hne with h1 | h1
  ·have h2 := hp i' i (by simpa using hi') (by simpa using hi) h1
   rw [List.getElem_map, List.getElem_map] at h2
   exact h2
  ·have h2 := hp i i' (by simpa using hi) (by simpa using hi') h1
   rw [List.getElem_map, List.getElem_map] at h2
   exact fun e => h2 e.symm
 refine ⟨⟨by rw [List.length_set]; exact h.sl.len, h.sl.cap, h.sl.most, h.sl.nil, fun i' hi' => ?_⟩, fun b o e x hx => ?_, ?_⟩
 ·have hi2 : i' < L.length := by simpa using hi'
  obtain ⟨b1, o1, cs1, ha1, ⟨hcs1, hrow1⟩, hc1⟩ := h.sl.at_ i' hi2
  have hb1 : b1 ≠ L[i].1 := h.out b1 o1 ha1 _ (List.getElem_mem hi)
  have key : ∀ x : Nat × List Rat, cs1 = [.slice (some ⟨x.1, 0, none⟩) m m] → Sl (rRatK K) B (stores w L[i].1 (k * 4) cs) (some ⟨x.1, 0, none⟩) m m x.2 → (L.set i (L[i].1, L[i].2.set k q))[i'] = x → ∃ b o cs_1, a = some ⟨b, o, none⟩ ∧ (rRowG K m).ok B (stores w L[i].1 (k * 4) cs) cs_1 (L.set i (L[i].1, L[i].2.set k q))[i'] ∧ ∀ j (hj : j < cs_1.length), Cel B (stores w L[i].1 (k * 4) cs) b (o + i' * (rRowG K m).size + j) cs_1[j] := fun x h1 h2 h3 => by
   rw [h3]
   exact ⟨b1, o1, cs1, ha1, ⟨h1, h2⟩, fun j hj => cel_stores cs (hc1 j hj) (.inl hb1)⟩
  by_cases he : i' = i
  ·subst he
   refine key (L[i'].1, L[i'].2.set k q) hcs1 ?_ (by simp)
   refine ⟨by rw [List.length_set]; exact hrow1.len, hrow1.cap, hrow1.most, hrow1.nil, fun t ht => ?_⟩
   have ht2 : t < L[i'].2.length := by simpa using ht
   by_cases hte : t = k
   ·subst hte
    refine ⟨L[i'].1, 0, cs, rfl, ?_, fun j hj => ?_⟩
    ·rw [List.getElem_set_self]; exact rRatK_stores cs hq hnw
    ·have := cel_stores_at cs (fun j hj => by obtain ⟨v, h1, _⟩ := hcel j (by omega); exact ⟨v, h1⟩) j hj
     rw [Nat.zero_add]; exact this
   ·obtain ⟨b2, o2, cs2, hg2, hq2, hc2⟩ := hrow1.at_ t ht2
    cases hg2
    have hl2 : cs2.length = 4 := (rRatK K).len hq2
    refine ⟨L[i'].1, 0, cs2, rfl, ?_, fun j hj => cel_stores cs (hc2 j hj) (.inr ?_)⟩
    ·rw [List.getElem_set_ne (by omega)]; exact rRatK_stores cs hq2 hnw
    ·show 0 + t * 4 + j < k * 4 ∨ k * 4 + cs.length ≤ 0 + t * 4 + j
     omega
  ·refine key L[i'] hcs1 ?_ (by rw [List.getElem_set_ne (by omega)])
   have hne := hinj i' hi2 he
   refine ⟨hrow1.len, hrow1.cap, hrow1.most, hrow1.nil, fun t ht => ?_⟩
   obtain ⟨b2, o2, cs2, hg2, hq2, hc2⟩ := hrow1.at_ t ht
   cases hg2
   exact ⟨_, 0, cs2, rfl, rRatK_stores cs hq2 hnw, fun j hj => cel_stores cs (hc2 j hj) (.inl hne)⟩
 ·rcases List.mem_or_eq_of_mem_set hx with h1 | h1
  ·exact h.out b o e x h1
  ·rw [h1]; show b ≠ L[i].1; exact h.out b o e L[i] (List.getElem_mem hi)
 ·have : (L.set i (L[i].1, L[i].2.set k q)).map Prod.fst = L.map Prod.fst := by
   rw [List.map_set]
   refine List.ext_getElem (by simp) fun t h1 h2 => ?_
   by_cases hte : t = i
   ·subst hte; simp
   ·rw [List.getElem_set_ne (by omega)]
  rw [this]; exact h.inj
end Go.Proofs.YtbhenelehhiakaaGreat
namespace Go.Proofs.YtbhenelehhiakaaGreat
open Go.RowKit
theorem MG.ext {K B : Nat} {w w' : World} {a : Option Addr} {n c m : Nat} {L : List (Nat × List Rat)} (h : MG K B w a n c m L) (hE : Ext w w') : MG K B w' a n c m L := ⟨h.sl.ext (Nat.le_refl _) hE, h.out, h.inj⟩
theorem MG.cells {K B : Nat} {w : World} {a : Option Addr} {n c m : Nat} {L : List (Nat × List Rat)} (h : MG K B w a n c m L) {i k : Nat} (hi : i < L.length) (hk : k < m) : ∃ b o, a = some ⟨b, o, none⟩ ∧ b < w.heap.size ∧ B ≤ L[i].1 ∧ L[i].1 < w.heap.size ∧ b ≠ L[i].1 ∧ w.cell? ⟨b, o + i, none⟩ = some (.slice (some ⟨L[i].1, 0, none⟩) m m) ∧
  ((∃ u, w.cell? ⟨L[i].1, k * 4, none⟩ = some u) ∧ w.frozen? ⟨L[i].1, k * 4, none⟩ = false) ∧ ((∃ u, w.cell? ⟨L[i].1, k * 4 + 1, none⟩ = some u) ∧ w.frozen? ⟨L[i].1, k * 4 + 1, none⟩ = false) ∧ ((∃ u, w.cell? ⟨L[i].1, k * 4 + 2, none⟩ = some u) ∧ w.frozen? ⟨L[i].1, k * 4 + 2, none⟩ = false) ∧ ((∃ u, w.cell? ⟨L[i].1, k * 4 + 3, none⟩ = some u) ∧ w.frozen? ⟨L[i].1, k * 4 + 3, none⟩ = false) := by
 obtain ⟨b0, o0, cs0, ha, ⟨rfl, hrow⟩, hc0⟩ := h.sl.at_ i hi
 obtain ⟨bk, ok, csk, hgk, hqk, hck⟩ := hrow.at_ k (by rw [hrow.len]; exact hk)
 cases hgk
 have hl4 : csk.length = 4 := (rRatK K).len hqk
 have key : ∀ j (hj : j < 4), Cel B w L[i].1 (k * 4 + j) (csk[j]'(by omega)) := fun j hj => by
  have := hck j (by omega)
  rwa [Nat.zero_add] at this
 have h0 := hc0 0 (by simp)
 refine ⟨b0, o0, ha, cel_lt h0, (key 0 (by omega)).ge, cel_lt (key 0 (by omega)), h.out b0 o0 ha _ (List.getElem_mem hi), by simpa [rRowG] using h0.cell, ⟨⟨_, (key 0 (by omega)).cell⟩, (key 0 (by omega)).free⟩, ⟨⟨_, (key 1 (by omega)).cell⟩, (key 1 (by omega)).free⟩, ⟨⟨_, (key 2 (by omega)).cell⟩, (key 2 (by omega)).free⟩, ⟨⟨_, (key 3 (by omega)).cell⟩, (key 3 (by omega)).free⟩⟩
theorem RFrom.box {w w2 : World} {B r : Nat} {D : Nat} {zss : List (List Int)} {v0 v1 v2 : Value} {a a2 : Option Addr} {n c n2 c2 : Nat} (hr : w.heap.size ≤ r) (hrB : r < B) (hE : Ext w w2) (h : NatS B w2 a n c (limbs D)) (h2 : Sl rRowsN B w2 a2 n2 c2 zss) :
  RFrom w D zss (.returned (.agg #[.bool false, .slice a n c, .slice a2 n2 c2])) (((w2.setCell ⟨r, 0, none⟩ v0).setCell ⟨r, 1, none⟩ v1).setCell ⟨r, 2, none⟩ v2) :=
 ⟨a, n, c, a2, n2, c2, rfl, h.mono (by omega) (kept_set3 _ _ _ _ hrB), h2.mono (by omega) (kept_set3 _ _ _ _ hrB), ext_set3 hE _ _ _ hr⟩
end Go.Proofs.YtbhenelehhiakaaGreat
namespace Go.Proofs.YtbhenelehhiakaaGreat
open Go.RowKit
theorem Sl.getIt {B : Nat} {w : World} {a : Option Addr} {n c : Nat} {xs : List It} (h : Sl rInt B w a n c xs) {i : Nat} (hi : i < n) : ∃ b o s a1 n1 c1 l, a = some ⟨b, o, none⟩ ∧ b < w.heap.size ∧ xs[i]? = some (s, l) ∧ w.cell? ⟨b, o + i * 2, none⟩ = some (.bool s) ∧ w.cell? ⟨b, o + i * 2 + 1, none⟩ = some (.slice a1 n1 c1) ∧ NatS B w a1 n1 c1 l := by
 have hl : i < xs.length := by rw [h.len]; exact hi
 obtain ⟨b, o, cs, ha, ⟨c1, c2, rfl, h1, a1, n1, cc, rfl, h2⟩, hc⟩ := h.at_ i hl
 have h1' : c1 = [.bool xs[i].1] := h1
 subst h1'
 exact ⟨b, o, xs[i].1, a1, n1, cc, xs[i].2, ha, cel_lt (hc 0 (by simp)), by rw [List.getElem?_eq_getElem hl], (hc 0 (by simp)).cell, (hc 1 (by simp)).cell, h2⟩
def rawI (z : Int) : It := (decide (z < 0), limbs z.natAbs)
theorem rawInts {B : Nat} {w : World} {a : Option Addr} {n c : Nat} {zs : List Int} (h : Sl rIntN B w a n c zs) : Sl rInt 0 w a n c (zs.map rawI) :=
 h.mapw (s := rInt) rawI (Nat.zero_le _) rfl fun _ _ ⟨a, n, c, e, hs⟩ => ⟨[.bool _], [.slice a n c], e, rfl, a, n, c, rfl, Sl.zero hs⟩
theorem rawRows {B : Nat} {w : World} {a : Option Addr} {n c : Nat} {zss : List (List Int)} (h : Sl rRowsN B w a n c zss) : Sl rInts 0 w a n c (zss.map fun zs => zs.map rawI) :=
 h.mapw (s := rInts) (fun zs => zs.map rawI) (Nat.zero_le _) rfl fun _ _ ⟨a, n, c, e, hs⟩ => ⟨a, n, c, e, rawInts hs⟩
theorem r3Same_b (b b2 : Bool) (B : Nat) (w : World) (a a2 : Option Addr) (n c n2 c2 : Nat) (l l2 : Nt) (h : NatS B w a n c l) (h2 : NatS B w a2 n2 c2 l2) (sb : Bool) (hs : Hid (decide ((b, l) = (b2, l2)) = sb)) :
  Calls Tryz.prog 62 #[.agg #[.bool b, .slice a n c], .agg #[.bool b2, .slice a2 n2 c2]] w fun e w' => e = .returned (.bool sb) ∧ Ext w w' := by
 have := r3Same_any b b2 B w a a2 n c n2 c2 l l2 h h2
 rwa [hs.out] at this
set_option maxRecDepth 100000 in
set_option maxHeartbeats 2000000 in
theorem r3SameAll_any (w : World) (a a2 : Option Addr) (n c n2 c2 : Nat) (xs ys : List It) (h : Sl rInt 0 w a n c xs) (h2 : Sl rInt 0 w a2 n2 c2 ys) :
  Calls Tryz.prog 63 #[.slice a n c, .slice a2 n2 c2] w fun e w' => e = .returned (.bool (decide (xs = ys))) ∧ Ext w w' := by
 have hcap := h.cap
 have hmost := h.most
 obtain ⟨r, hr⟩ : ∃ r, r = decide (xs = ys) := ⟨_, rfl⟩
 rw [← hr]
 have HR := Lib.hid hr
 have HN := Lib.hid h
 have HN2 := Lib.hid h2
 have hl := Lib.hid h.len
 have hl2 := Lib.hid h2.len
 clear hr h h2
 by_cases hnn : n = n2
 ·subst hnn
  go_enter Tryz.func63, Tryz.ntmps63
  go_wp2_with fail
  go_loopg [13] n (fun q s wr => ∃ i : Nat, i ≤ n ∧ q = n - i ∧ s = .int .i64 (i : Int) ∧ Hid (∀ j, j < i → xs[j]? = ys[j]?) ∧ Hid (Ext w wr))
  case atStart => exact ⟨0, Nat.zero_le _, by omega, rfl, Lib.hid (fun j hj => by omega), Lib.hid (Ext.refl _)⟩
  case round =>
   obtain ⟨i, hi, hq, rfl, hz, HE⟩ := hrel
   by_cases hin : i < n
   ·obtain ⟨b, o, s1, a1, n1, c1, l1, rfl, hb, hx, hc1, hc2, hN1⟩ := HN.out.getIt hin
    obtain ⟨b2, o2, s2, a3, n3, c3, l2, rfl, hb2, hy, hc3, hc4, hN2⟩ := HN2.out.getIt hin
    have hd : Ext wr wr.drew := (Below.refl _ _).drew
    have hEd := Ext.trans HE.out hd
    replace hc1 := (hEd.cell (p := ⟨b, o + i * 2, none⟩) hb).trans hc1
    replace hc2 := (hEd.cell (p := ⟨b, o + i * 2 + 1, none⟩) hb).trans hc2
    replace hc3 := (hEd.cell (p := ⟨b2, o2 + i * 2, none⟩) hb2).trans hc3
    replace hc4 := (hEd.cell (p := ⟨b2, o2 + i * 2 + 1, none⟩) hb2).trans hc4
    have h1 := hN1.ext (Nat.le_refl _) hEd
    have h2 := hN2.ext (Nat.le_refl _) hEd
    have hik : (i : Int) < n := by omega
    have HX := Lib.hid hx
    have HY := Lib.hid hy
    clear hx hy hN1 hN2 hd
    by_cases hxy : (s1, l1) = (s2, l2)
    ·have HSB : Hid (decide ((s1, l1) = (s2, l2)) = true) := Lib.hid (decide_eq_true hxy)
     have HXY : Hid (xs[i]? = ys[i]?) := Lib.hid (by rw [HX.out, HY.out, hxy])
     clear hxy
     go_wp2_with fail
     go_region_held3 (fun w' => w'.cell? ⟨b, o + i * 2, none⟩ = some (.bool s1) ∧ w'.cell? ⟨b, o + i * 2 + 1, none⟩ = some (.slice a1 n1 c1) ∧ w'.cell? ⟨b2, o2 + i * 2, none⟩ = some (.bool s2) ∧ w'.cell? ⟨b2, o2 + i * 2 + 1, none⟩ = some (.slice a3 n3 c3)) (first | exact ⟨hc1, hc2, hc3, hc4⟩ | go_keep)
      (first | (go_at_call 62; refine (r3Same_b s1 s2 0 _ a1 a3 n1 c1 n3 c3 l1 l2 h1 h2 _ HSB).mono ?_; rintro e w5 ⟨rfl, hE5⟩; replace hc1 := (hE5.cell (p := ⟨b, o + i * 2, none⟩) (World.block_lt_of_cell? _ _ hc1)).trans hc1; replace hc2 := (hE5.cell (p := ⟨b, o + i * 2 + 1, none⟩) (World.block_lt_of_cell? _ _ hc2)).trans hc2; replace hc3 := (hE5.cell (p := ⟨b2, o2 + i * 2, none⟩) (World.block_lt_of_cell? _ _ hc3)).trans hc3; replace hc4 := (hE5.cell (p := ⟨b2, o2 + i * 2 + 1, none⟩) (World.block_lt_of_cell? _ _ hc4)).trans hc4; replace hEd := Ext.trans hEd hE5))
     all_goals
      have HEd := Lib.hid hEd
      clear h1 h2 hE5 hEd hc1 hc2 hc3 hc4
      go_wp2_with fail
      go_roundg (n - (i + 1))
      case measure => omega
      case rel => exact ⟨i + 1, by omega, rfl, by go_num, Lib.hid (fun j hj => by
       by_cases hji : j < i
       ·exact hz.out j hji
       ·obtain rfl : j = i := by omega
        exact HXY.out), HEd⟩
    ·have HSB : Hid (decide ((s1, l1) = (s2, l2)) = false) := Lib.hid (decide_eq_false hxy)
     have HF : Hid (r = false) := Lib.hid (by rw [HR.out, decide_eq_false]; intro e; subst e; have h9 := HX.out; rw [HY.out] at h9; exact hxy (Option.some.inj h9).symm)
     clear hxy
     go_wp2_with fail
     go_region_held3 (fun w' => w'.cell? ⟨b, o + i * 2, none⟩ = some (.bool s1) ∧ w'.cell? ⟨b, o + i * 2 + 1, none⟩ = some (.slice a1 n1 c1) ∧ w'.cell? ⟨b2, o2 + i * 2, none⟩ = some (.bool s2) ∧ w'.cell? ⟨b2, o2 + i * 2 + 1, none⟩ = some (.slice a3 n3 c3)) (first | exact ⟨hc1, hc2, hc3, hc4⟩ | go_keep)
      (first | (go_at_call 62; refine (r3Same_b s1 s2 0 _ a1 a3 n1 c1 n3 c3 l1 l2 h1 h2 _ HSB).mono ?_; rintro e w5 ⟨rfl, hE5⟩; replace hc1 := (hE5.cell (p := ⟨b, o + i * 2, none⟩) (World.block_lt_of_cell? _ _ hc1)).trans hc1; replace hc2 := (hE5.cell (p := ⟨b, o + i * 2 + 1, none⟩) (World.block_lt_of_cell? _ _ hc2)).trans hc2; replace hc3 := (hE5.cell (p := ⟨b2, o2 + i * 2, none⟩) (World.block_lt_of_cell? _ _ hc3)).trans hc3; replace hc4 := (hE5.cell (p := ⟨b2, o2 + i * 2 + 1, none⟩) (World.block_lt_of_cell? _ _ hc4)).trans hc4; replace hEd := Ext.trans hEd hE5))
     all_goals
      have HEd := Lib.hid hEd
      clear h1 h2 hE5 hEd hc1 hc2 hc3 hc4
      go_wp2_with fail
      go_ret
      exact ⟨by rw [HF.out]; rfl, HEd.out⟩
   ·obtain rfl : i = n := by omega
    have HT : Hid (r = true) := Lib.hid (by
     rw [HR.out, decide_eq_true]
     refine List.ext_getElem? fun j => ?_
     by_cases hji : j < i
     ·exact hz.out j hji
     ·rw [List.getElem?_eq_none (by rw [hl.out]; omega), List.getElem?_eq_none (by rw [hl2.out]; omega)])
    go_wp2_with fail
    go_ret
    exact ⟨by rw [HT.out]; rfl, HE.out⟩
 ·have hne : ((n : Int) != (n2 : Int)) = true := by simp; omega
  have HF : Hid (r = false) := Lib.hid (by rw [HR.out, decide_eq_false]; intro e; subst e; exact hnn (hl.out.symm.trans hl2.out))
  clear hnn
  go_enter Tryz.func63, Tryz.ntmps63
  go_wp2_with fail
  go_ret
  exact ⟨by rw [HF.out]; rfl, Ext.refl _⟩
end Go.Proofs.YtbhenelehhiakaaGreat
namespace Go.Proofs.YtbhenelehhiakaaGreat
open Go.RowKit
theorem Sl.getRow {α : Type} {r : Rd α} {B : Nat} {w : World} {a : Option Addr} {n c : Nat} {xs : List (List α)} (h : Sl r.slice B w a n c xs) {i : Nat} (hi : i < n) : ∃ b o a1 n1 c1 x, a = some ⟨b, o, none⟩ ∧ b < w.heap.size ∧ xs[i]? = some x ∧ w.cell? ⟨b, o + i, none⟩ = some (.slice a1 n1 c1) ∧ Sl r B w a1 n1 c1 x := by
 have hl : i < xs.length := by rw [h.len]; exact hi
 obtain ⟨b, o, cs, ha, ⟨a1, n1, c1, rfl, h1⟩, hc⟩ := h.at_ i hl
 exact ⟨b, o, a1, n1, c1, _, ha, cel_lt (hc 0 (by simp)), List.getElem?_eq_getElem hl, by simpa [Rd.slice] using (hc 0 (by simp)).cell, h1⟩
theorem r3SameAll_b (w : World) (a a2 : Option Addr) (n c n2 c2 : Nat) (xs ys : List It) (h : Sl rInt 0 w a n c xs) (h2 : Sl rInt 0 w a2 n2 c2 ys) (sb : Bool) (hs : Hid (decide (xs = ys) = sb)) :
  Calls Tryz.prog 63 #[.slice a n c, .slice a2 n2 c2] w fun e w' => e = .returned (.bool sb) ∧ Ext w w' := by
 have := r3SameAll_any w a a2 n c n2 c2 xs ys h h2
 rwa [hs.out] at this
set_option maxRecDepth 100000 in
set_option maxHeartbeats 4000000 in
theorem r11Same_any (w : World) (b b2 : Bool) (a a2 a3 a4 : Option Addr) (n c n2 c2 n3 c3 n4 c4 : Nat) (l l2 : Nt) (xss yss : List (List It)) (h : NatS 0 w a n c l) (h2 : NatS 0 w a2 n2 c2 l2) (h3 : Sl rInts 0 w a3 n3 c3 xss) (h4 : Sl rInts 0 w a4 n4 c4 yss) (sb : Bool) (hsb : Hid (decide ((b, l) = (b2, l2) ∧ xss = yss) = sb)) :
  Calls Tryz.prog 88 #[.agg #[.bool b, .slice a n c, .slice a3 n3 c3], .agg #[.bool b2, .slice a2 n2 c2, .slice a4 n4 c4]] w fun e w' => e = .returned (.bool sb) ∧ Ext w w' := by
 have hcap := h3.cap
 have hmost := h3.most
 have HX := Lib.hid h3
 have HY := Lib.hid h4
 have hl3 := Lib.hid h3.len
 have hl4 := Lib.hid h4.len
 clear h3 h4
 by_cases hden : (b, l) = (b2, l2)
 ·have HS : Hid (decide ((b, l) = (b2, l2)) = true) := Lib.hid (decide_eq_true hden)
  have HSB : Hid (decide (xss = yss) = sb) := Lib.hid (by rw [← hsb.out]; simp [hden])
  clear hden hsb
  go_enter Tryz.func88, Tryz.ntmps88
  go_wp2_with fail
  have p0 := Blk.new w 28 #[.bool b, .slice a n c, .slice a3 n3 c3]
  have p1 := Blk.new (w.alloc (Obj.cells #[.bool b, .slice a n c, .slice a3 n3 c3] 28)) 28 #[.bool b2, .slice a2 n2 c2, .slice a4 n4 c4]
  replace p0 := p0.ext ((Below.refl _ _).alloc (Nat.le_refl _) (Obj.cells #[.bool b2, .slice a2 n2 c2, .slice a4 n4 c4] 28))
  have hEW : Ext w ((w.alloc (Obj.cells #[.bool b, .slice a n c, .slice a3 n3 c3] 28)).alloc (Obj.cells #[.bool b2, .slice a2 n2 c2, .slice a4 n4 c4] 28)) := (((Below.refl _ w).alloc (by simp) _).alloc (by simp) _)
  generalize hgW : (w.alloc (Obj.cells #[.bool b, .slice a n c, .slice a3 n3 c3] 28)).alloc (Obj.cells #[.bool b2, .slice a2 n2 c2, .slice a4 n4 c4] 28) = W at *
  clear hgW
  simp only [World.size_alloc] at p1
  have p0_ne_p1 : ¬ w.heap.size = w.heap.size + 1 := by omega
  have p1_ne_p0 : ¬ w.heap.size + 1 = w.heap.size := by omega
  replace p0_0 := p0.cell (i := 0) rfl
  replace p0_1 := p0.cell (i := 1) rfl
  replace p0_2 := p0.cell (i := 2) rfl
  replace p1_0 := p1.cell (i := 0) rfl
  replace p1_1 := p1.cell (i := 1) rfl
  replace p1_2 := p1.cell (i := 2) rfl
  refine (r3Same_b b b2 0 W a a2 n c n2 c2 l l2 (h.ext (Nat.le_refl _) hEW) (h2.ext (Nat.le_refl _) hEW) true HS).mono ?_
  rintro e w1 ⟨rfl, hE1⟩
  replace p0 := p0.ext hE1; replace p0_0 := p0.cell (i := 0) rfl; replace p0_1 := p0.cell (i := 1) rfl; replace p0_2 := p0.cell (i := 2) rfl; replace p1 := p1.ext hE1; replace p1_0 := p1.cell (i := 0) rfl; replace p1_1 := p1.cell (i := 1) rfl; replace p1_2 := p1.cell (i := 2) rfl
  have HE1 := Lib.hid (Ext.trans hEW hE1)
  have HP0 := Lib.hid p0
  have HP1 := Lib.hid p1
  clear h h2 hE1 hEW
  by_cases hnn : n3 = n4
  ·subst hnn
   clear p0 p1
   go_wp2_with fail
   go_loopg [24] n3 (fun q s wr => ∃ i : Nat, i ≤ n3 ∧ q = n3 - i ∧ s = .int .i64 (i : Int) ∧ Hid (∀ j, j < i → xss[j]? = yss[j]?) ∧ Hid (Ext w1 wr))
   case atStart => exact ⟨0, Nat.zero_le _, by omega, rfl, Lib.hid (fun j hj => by omega), Lib.hid (Ext.refl _)⟩
   case round =>
    obtain ⟨i, hi, hq, rfl, hz, HE⟩ := hrel
    clear p0_0 p0_1 p0_2 p1_0 p1_1 p1_2
    have hd : Ext wr wr.drew := (Below.refl _ _).drew
    by_cases hin : i < n3
    ·obtain ⟨b5, o5, a5, n5, c5, xs, rfl, hb5, hx, hc5, hX⟩ := Sl.getRow HX.out hin
     obtain ⟨b6, o6, a6, n6, c6, ys, rfl, hb6, hy, hc6, hY⟩ := Sl.getRow HY.out hin
     have hEd := Ext.trans HE1.out (Ext.trans HE.out hd)
     replace hc5 := (hEd.cell (p := ⟨b5, o5 + i, none⟩) hb5).trans hc5
     replace hc6 := (hEd.cell (p := ⟨b6, o6 + i, none⟩) hb6).trans hc6
     have h5 := hX.ext (Nat.le_refl _) hEd
     have h6 := hY.ext (Nat.le_refl _) hEd
     have p0 := HP0.out.ext (Ext.trans HE.out hd)
     have p1 := HP1.out.ext (Ext.trans HE.out hd)
     have hik : (i : Int) < n3 := by omega
     have HXI := Lib.hid hx
     have HYI := Lib.hid hy
     have hEz := Ext.trans HE.out hd
     clear hx hy hX hY hd hEd
     skip
     skip
     replace p0_0 := p0.cell (i := 0) rfl
     replace p0_1 := p0.cell (i := 1) rfl
     replace p0_2 := p0.cell (i := 2) rfl
     replace p1_0 := p1.cell (i := 0) rfl
     replace p1_1 := p1.cell (i := 1) rfl
     replace p1_2 := p1.cell (i := 2) rfl
     by_cases hxy : xs = ys
     ·have HSA : Hid (decide (xs = ys) = true) := Lib.hid (decide_eq_true hxy)
      have HXY : Hid (xss[i]? = yss[i]?) := Lib.hid (by rw [HXI.out, HYI.out, hxy])
      clear hxy
      go_wp2_with fail
      go_region_held3 (fun w' => w'.cell? ⟨w.heap.size, 2, none⟩ = some (.slice (some ⟨b5, o5, none⟩) n3 c3) ∧ w'.cell? ⟨w.heap.size + 1, 2, none⟩ = some (.slice (some ⟨b6, o6, none⟩) n3 c4) ∧ w'.cell? ⟨b5, o5 + i, none⟩ = some (.slice a5 n5 c5) ∧ w'.cell? ⟨b6, o6 + i, none⟩ = some (.slice a6 n6 c6)) (first | exact ⟨p0_2, p1_2, hc5, hc6⟩ | go_keep)
       (first | (go_at_call 63; refine (r3SameAll_b _ a5 a6 n5 c5 n6 c6 xs ys h5 h6 _ HSA).mono ?_; rintro e w5 ⟨rfl, hE5⟩; replace hc5 := (hE5.cell (p := ⟨b5, o5 + i, none⟩) (World.block_lt_of_cell? _ _ hc5)).trans hc5; replace hc6 := (hE5.cell (p := ⟨b6, o6 + i, none⟩) (World.block_lt_of_cell? _ _ hc6)).trans hc6; replace p0_2 := (hE5.cell (p := ⟨w.heap.size, 2, none⟩) (World.block_lt_of_cell? _ _ p0_2)).trans p0_2; replace p1_2 := (hE5.cell (p := ⟨w.heap.size + 1, 2, none⟩) (World.block_lt_of_cell? _ _ p1_2)).trans p1_2; replace hEz := Ext.trans hEz hE5))
      all_goals
       have HEd := Lib.hid hEz
       clear h5 h6 hE5 hEz hc5 hc6 p0_2 p1_2 p0 p1 p0_0 p0_1 p1_0 p1_1
       go_wp2_with fail
       go_roundg (n3 - (i + 1))
       case measure => omega
       case rel => exact ⟨i + 1, by omega, rfl, by go_num, Lib.hid (fun j hj => by
        by_cases hji : j < i
        ·exact hz.out j hji
        ·obtain rfl : j = i := by omega
         exact HXY.out), HEd⟩
     ·have HSA : Hid (decide (xs = ys) = false) := Lib.hid (decide_eq_false hxy)
      have HF : Hid (sb = false) := Lib.hid (by rw [← HSB.out, decide_eq_false]; intro e; subst e; have h9 := HXI.out; rw [HYI.out] at h9; exact hxy (Option.some.inj h9).symm)
      clear hxy
      go_wp2_with fail
      go_region_held3 (fun w' => w'.cell? ⟨w.heap.size, 2, none⟩ = some (.slice (some ⟨b5, o5, none⟩) n3 c3) ∧ w'.cell? ⟨w.heap.size + 1, 2, none⟩ = some (.slice (some ⟨b6, o6, none⟩) n3 c4) ∧ w'.cell? ⟨b5, o5 + i, none⟩ = some (.slice a5 n5 c5) ∧ w'.cell? ⟨b6, o6 + i, none⟩ = some (.slice a6 n6 c6)) (first | exact ⟨p0_2, p1_2, hc5, hc6⟩ | go_keep)
       (first | (go_at_call 63; refine (r3SameAll_b _ a5 a6 n5 c5 n6 c6 xs ys h5 h6 _ HSA).mono ?_; rintro e w5 ⟨rfl, hE5⟩; replace hc5 := (hE5.cell (p := ⟨b5, o5 + i, none⟩) (World.block_lt_of_cell? _ _ hc5)).trans hc5; replace hc6 := (hE5.cell (p := ⟨b6, o6 + i, none⟩) (World.block_lt_of_cell? _ _ hc6)).trans hc6; replace p0_2 := (hE5.cell (p := ⟨w.heap.size, 2, none⟩) (World.block_lt_of_cell? _ _ p0_2)).trans p0_2; replace p1_2 := (hE5.cell (p := ⟨w.heap.size + 1, 2, none⟩) (World.block_lt_of_cell? _ _ p1_2)).trans p1_2; replace hEz := Ext.trans hEz hE5))
      all_goals
       have HEd := Lib.hid (Ext.trans HE1.out hEz)
       clear h5 h6 hE5 hEz hc5 hc6 p0_2 p1_2 p0 p1 p0_0 p0_1 p1_0 p1_1
       go_wp2_with fail
       go_ret
       exact ⟨by rw [HF.out]; rfl, HEd.out⟩
    ·obtain rfl : i = n3 := by omega
     have HT : Hid (sb = true) := Lib.hid (by
      rw [← HSB.out, decide_eq_true]
      refine List.ext_getElem? fun j => ?_
      by_cases hji : j < i
      ·exact hz.out j hji
      ·rw [List.getElem?_eq_none (by rw [hl3.out]; omega), List.getElem?_eq_none (by rw [hl4.out]; omega)])
     go_wp2_with fail
     go_ret
     exact ⟨by rw [HT.out]; rfl, Ext.trans HE1.out HE.out⟩
  ·have hne : ((n3 : Int) != (n4 : Int)) = true := by simp; omega
   have HF : Hid (sb = false) := Lib.hid (by rw [← HSB.out, decide_eq_false]; intro e; subst e; exact hnn (hl3.out.symm.trans hl4.out))
   clear hnn
   go_wp2_with fail
   go_ret
   exact ⟨by rw [HF.out]; rfl, HE1.out⟩
 ·have HS : Hid (decide ((b, l) = (b2, l2)) = false) := Lib.hid (decide_eq_false hden)
  have HF : Hid (sb = false) := Lib.hid (by rw [← hsb.out, decide_eq_false]; exact fun h => hden h.1)
  clear hden hsb
  go_enter Tryz.func88, Tryz.ntmps88
  go_wp2_with fail
  have p0 := Blk.new w 28 #[.bool b, .slice a n c, .slice a3 n3 c3]
  have p1 := Blk.new (w.alloc (Obj.cells #[.bool b, .slice a n c, .slice a3 n3 c3] 28)) 28 #[.bool b2, .slice a2 n2 c2, .slice a4 n4 c4]
  replace p0 := p0.ext ((Below.refl _ _).alloc (Nat.le_refl _) (Obj.cells #[.bool b2, .slice a2 n2 c2, .slice a4 n4 c4] 28))
  have hEW : Ext w ((w.alloc (Obj.cells #[.bool b, .slice a n c, .slice a3 n3 c3] 28)).alloc (Obj.cells #[.bool b2, .slice a2 n2 c2, .slice a4 n4 c4] 28)) := (((Below.refl _ w).alloc (by simp) _).alloc (by simp) _)
  generalize hgW : (w.alloc (Obj.cells #[.bool b, .slice a n c, .slice a3 n3 c3] 28)).alloc (Obj.cells #[.bool b2, .slice a2 n2 c2, .slice a4 n4 c4] 28) = W at *
  clear hgW
  simp only [World.size_alloc] at p1
  have p0_ne_p1 : ¬ w.heap.size = w.heap.size + 1 := by omega
  have p1_ne_p0 : ¬ w.heap.size + 1 = w.heap.size := by omega
  replace p0_0 := p0.cell (i := 0) rfl
  replace p0_1 := p0.cell (i := 1) rfl
  replace p0_2 := p0.cell (i := 2) rfl
  replace p1_0 := p1.cell (i := 0) rfl
  replace p1_1 := p1.cell (i := 1) rfl
  replace p1_2 := p1.cell (i := 2) rfl
  refine (r3Same_b b b2 0 W a a2 n c n2 c2 l l2 (h.ext (Nat.le_refl _) hEW) (h2.ext (Nat.le_refl _) hEW) false HS).mono ?_
  rintro e w1 ⟨rfl, hE1⟩
  have HE := Lib.hid (Ext.trans hEW hE1)
  clear h h2 hE1 hEW
  go_wp2_with fail
  go_ret
  exact ⟨by rw [HF.out]; rfl, HE.out⟩
end Go.Proofs.YtbhenelehhiakaaGreat
namespace Go.Proofs.YtbhenelehhiakaaGreat
open Go.RowKit
def evenB {α : Type} (xss : List (List α)) : Bool := xss.all fun xs => decide (xs.length = colsOf xss)
set_option maxHeartbeats 1000000 in
theorem even_any {α : Type} (r : Rd α) (B : Nat) (w : World) (a : Option Addr) (n c : Nat) (xss : List (List α)) (h : Sl r.slice B w a n c xss) (s : Bool) (hs : Hid (evenB xss = s)) :
  Calls Tryz.prog 87 #[.slice a n c] w fun e w' => e = .returned (.bool s) ∧ w = w' := by
 have hmost := h.most
 have hcap := h.cap
 have HS := Lib.hid h
 have hl := Lib.hid h.len
 clear h
 go_enter Tryz.func87, Tryz.ntmps87
 go_wp2_with fail
 go_loopg [7] n (fun q vi wr => ∃ i : Nat, i ≤ n ∧ q = n - i ∧ vi = .int .i64 (i : Int) ∧ Hid (∀ j x, j < i → xss[j]? = some x → x.length = colsOf xss) ∧ w = wr)
 case atStart => exact ⟨0, Nat.zero_le _, by omega, rfl, Lib.hid (fun j _ hj => by omega), rfl⟩
 case round =>
  obtain ⟨i, hi, hq, rfl, HI, rfl⟩ := hrel
  by_cases hin : i < n
  ·obtain ⟨b, o, a1, n1, c1, x, rfl, hb, hx, hc, hX⟩ := Sl.getRow HS.out hin
   obtain ⟨b', o', a2, n2, c2, y, hba, hb2, hy, hc2, hY⟩ := Sl.getRow HS.out (show 0 < n by omega)
   cases hba
   rw [Nat.add_zero] at hc2
   have HX := Lib.hid hx
   have hy2 : colsOf xss = n2 := by
    rw [← hY.len]
    cases xss with
    | nil => simp at hy
    | cons z zs => simp at hy; subst hy; rfl
   have HC := Lib.hid hy2
   have HN1 := Lib.hid hX.len
   clear hx hy hy2 hX hY
   by_cases h12 : n1 = n2
   ·subst h12
    go_wp2_with fail
    go_roundg (n - (i + 1))
    case measure => omega
    case rel => exact ⟨i + 1, by omega, rfl, by go_num, Lib.hid (fun j z hj hz => by
     by_cases hji : j < i
     ·exact HI.out j z hji hz
     ·obtain rfl : j = i := by omega
      rw [HX.out] at hz
      cases hz
      rw [HN1.out, HC.out]), rfl⟩
   ·have hne : ((n1 : Int) != (n2 : Int)) = true := by simp; omega
    have HF : Hid (s = false) := Lib.hid (by
     rw [← hs.out]
     unfold evenB
     rw [List.all_eq_false]
     obtain ⟨h5, h6⟩ := List.getElem?_eq_some_iff.1 HX.out
     refine ⟨x, by rw [← h6]; exact List.getElem_mem _, ?_⟩
     simp
     rw [HN1.out, HC.out]; exact h12)
    clear h12
    go_wp2_with fail
    go_ret
    exact ⟨by rw [HF.out]; rfl, rfl⟩
  ·obtain rfl : i = n := by omega
   have HT : Hid (s = true) := Lib.hid (by
    rw [← hs.out]
    unfold evenB
    rw [List.all_eq_true]
    intro x hx
    obtain ⟨j, hj, rfl⟩ := List.getElem_of_mem hx
    exact decide_eq_true (HI.out j _ (by rw [← hl.out]; exact hj) (List.getElem?_eq_getElem hj)))
   go_wp2_with fail
   go_ret
   exact ⟨by rw [HT.out]; rfl, rfl⟩
def checkE (d : Int) (xss : List (List Int)) : Int := if d = 0 then 6 else if evenB xss then 0 else 2
def MatS (K : Nat) (w : World) (b : Bool) (a : Option Addr) (n c : Nat) (a2 : Option Addr) (n2 c2 : Nat) (d : Int) (zss : List (List Int)) : Prop := ∃ l, NatS 0 w a n c l ∧ ival b l = d ∧ n ≤ K ∧ Sl (rIntK K).slice 0 w a2 n2 c2 zss
theorem MatS.ext {K : Nat} {w w' : World} {b : Bool} {a a2 : Option Addr} {n c n2 c2 : Nat} {d : Int} {zss : List (List Int)} (h : MatS K w b a n c a2 n2 c2 d zss) (hE : Ext w w') : MatS K w' b a n c a2 n2 c2 d zss := by
 obtain ⟨l, h1, h2, h3, h4⟩ := h
 exact ⟨l, h1.ext (Nat.le_refl _) hE, h2, h3, h4.ext (Nat.le_refl _) hE⟩
set_option maxHeartbeats 1000000 in
theorem check_any (K : Nat) (hK : K ≤ 8796093022208) (w : World) (b : Bool) (a a2 : Option Addr) (n c n2 c2 : Nat) (d : Int) (zss : List (List Int)) (h : MatS K w b a n c a2 n2 c2 d zss) (s : Int) (hs : Hid (checkE d zss = s)) :
  Calls Tryz.prog 28 #[.agg #[.bool b, .slice a n c, .slice a2 n2 c2]] w fun e w' => e = .returned (.int .i64 s) ∧ Ext w w' := by
 obtain ⟨l, h1, h2, h3, h4⟩ := h
 have HD := Lib.hid h2
 clear h2
 go_enter Tryz.func28, Tryz.ntmps28
 go_wp2_with fail
 have p0 := Blk.new w 28 #[.bool b, .slice a n c, .slice a2 n2 c2]
 have hEW : Ext w (w.alloc (Obj.cells #[.bool b, .slice a n c, .slice a2 n2 c2] 28)) := ((Below.refl _ w).alloc (by simp) _)
 generalize hgW : w.alloc (Obj.cells #[.bool b, .slice a n c, .slice a2 n2 c2] 28) = W at *
 clear hgW
 replace p0_0 := p0.cell (i := 0) rfl
 replace p0_1 := p0.cell (i := 1) rfl
 replace p0_2 := p0.cell (i := 2) rfl
 refine (zintSign_z b 0 W a n c l d (h1.ext (Nat.le_refl _) hEW) (by omega) HD).mono ?_
 rintro e w1 ⟨rfl, hE1⟩
 replace p0 := p0.ext hE1; replace p0_0 := p0.cell (i := 0) rfl; replace p0_1 := p0.cell (i := 1) rfl; replace p0_2 := p0.cell (i := 2) rfl
 have hE0 := Ext.trans hEW hE1
 have h4 := h4.ext (Nat.le_refl _) hE0
 have HE := Lib.hid hE0
 clear hEW hE1 hE0 h1
 by_cases hd : d = 0
 ·subst hd
  rw [Int.sign_zero]
  have HS : Hid (s = 6) := Lib.hid (by rw [← hs.out]; rfl)
  clear h4
  go_wp2_with fail
  go_ret
  exact ⟨by rw [HS.out]; rfl, HE.out⟩
 ·have hd0 : (d.sign == 0) = false := by simpa using hd
  generalize d.sign = sg at *
  cases hev : evenB zss with
  | true =>
   have HS : Hid (s = 0) := Lib.hid (by rw [← hs.out]; unfold checkE; rw [if_neg hd, hev]; rfl)
   have HEV := Lib.hid hev
   clear hd hev
   go_wp2_with fail
   refine (even_any (rIntK K) 0 w1 a2 n2 c2 zss h4 true HEV).mono ?_
   rintro e w2 ⟨rfl, rfl⟩
   clear h4
   go_wp2_with fail
   go_ret
   exact ⟨by rw [HS.out]; rfl, HE.out⟩
  | false =>
   have HS : Hid (s = 2) := Lib.hid (by rw [← hs.out]; unfold checkE; rw [if_neg hd, hev]; rfl)
   have HEV := Lib.hid hev
   clear hd hev
   go_wp2_with fail
   refine (even_any (rIntK K) 0 w1 a2 n2 c2 zss h4 false HEV).mono ?_
   rintro e w2 ⟨rfl, rfl⟩
   clear h4
   go_wp2_with fail
   go_ret
   exact ⟨by rw [HS.out]; rfl, HE.out⟩
end Go.Proofs.YtbhenelehhiakaaGreat
namespace Go.Proofs.YtbhenelehhiakaaGreat
open Go.RowKit
set_option maxHeartbeats 2000000 in
theorem r11Check_any (K : Nat) (hK : K ≤ 8796093022208) (w : World) (b : Bool) (a a2 : Option Addr) (n c n2 c2 : Nat) (d : Int) (zss : List (List Int)) (h : MatS K w b a n c a2 n2 c2 d zss) (s : Int) (hs : Hid (checkE d zss = s)) :
  Calls Tryz.prog 10 #[.agg #[.bool b, .slice a n c, .slice a2 n2 c2]] w fun e w' => e = .returned (.int .i64 s) ∧ Ext w w' := by
 obtain ⟨l, h1, h2, h3, h4⟩ := h
 have HD := Lib.hid h2
 clear h2
 go_enter Tryz.func10, Tryz.ntmps10
 go_wp2_with fail
 have p0 := Blk.new w 28 #[.bool b, .slice a n c, .slice a2 n2 c2]
 have hEW : Ext w (w.alloc (Obj.cells #[.bool b, .slice a n c, .slice a2 n2 c2] 28)) := ((Below.refl _ w).alloc (by simp) _)
 generalize hgW : w.alloc (Obj.cells #[.bool b, .slice a n c, .slice a2 n2 c2] 28) = W at *
 clear hgW
 replace p0_0 := p0.cell (i := 0) rfl
 replace p0_1 := p0.cell (i := 1) rfl
 replace p0_2 := p0.cell (i := 2) rfl
 refine (r3Sign_z b 0 W a n c l d (h1.ext (Nat.le_refl _) hEW) HD).mono ?_
 rintro e w1 ⟨rfl, hE1⟩
 replace p0 := p0.ext hE1; replace p0_0 := p0.cell (i := 0) rfl; replace p0_1 := p0.cell (i := 1) rfl; replace p0_2 := p0.cell (i := 2) rfl
 have hE0 := Ext.trans hEW hE1
 have h4 := h4.ext (Nat.le_refl _) hE0
 have HE := Lib.hid hE0
 clear hEW hE1 hE0 h1
 have hmost := h4.most
 have hcap := h4.cap
 have HS := Lib.hid h4
 have hl := Lib.hid h4.len
 clear h4
 by_cases hd : d = 0
 ·subst hd
  rw [Int.sign_zero]
  have HF : Hid (s = 6) := Lib.hid (by rw [← hs.out]; rfl)
  go_wp2_with fail
  go_ret
  exact ⟨by rw [HF.out]; rfl, HE.out⟩
 ·have hd0 : (d.sign == 0) = false := by simpa using hd
  have hs' : Hid ((if evenB zss then (0 : Int) else 2) = s) := Lib.hid (by rw [← hs.out]; unfold checkE; rw [if_neg hd])
  generalize d.sign = sg at *
  clear hd hs HD
  go_wp2_with fail
  go_loopg [12] n2 (fun q vi wr => ∃ i : Nat, i ≤ n2 ∧ q = n2 - i ∧ vi = .int .i64 (i : Int) ∧ Hid (∀ j x, j < i → zss[j]? = some x → x.length = colsOf zss) ∧ w1 = wr)
  case atStart => exact ⟨0, Nat.zero_le _, by omega, rfl, Lib.hid (fun j _ hj => by omega), rfl⟩
  case round =>
   obtain ⟨i, hi, hq, rfl, HI, rfl⟩ := hrel
   by_cases hin : i < n2
   ·obtain ⟨b, o, a1, n1, c1, x, rfl, hb, hx, hc, hX⟩ := Sl.getRow HS.out hin
    obtain ⟨b', o', a2, n3, c3, y, hba, hb2, hy, hc2, hY⟩ := Sl.getRow HS.out (show 0 < n2 by omega)
    cases hba
    rw [Nat.add_zero] at hc2
    have HX := Lib.hid hx
    have hy2 : colsOf zss = n3 := by
     rw [← hY.len]
     cases zss with
     | nil => simp at hy
     | cons z zs => simp at hy; subst hy; rfl
    have HC := Lib.hid hy2
    have HN1 := Lib.hid hX.len
    clear hx hy hy2 hX hY
    by_cases h12 : n1 = n3
    ·subst h12
     go_wp2_with fail
     go_roundg (n2 - (i + 1))
     case measure => omega
     case rel => exact ⟨i + 1, by omega, rfl, by go_num, Lib.hid (fun j z hj hz => by
      by_cases hji : j < i
      ·exact HI.out j z hji hz
      ·obtain rfl : j = i := by omega
       rw [HX.out] at hz
       cases hz
       rw [HN1.out, HC.out]), rfl⟩
    ·have hne : ((n1 : Int) != (n3 : Int)) = true := by simp; omega
     have HF : Hid (s = 2) := Lib.hid (by
      rw [← hs'.out]
      have : evenB zss = false := by
       unfold evenB
       rw [List.all_eq_false]
       obtain ⟨h5, h6⟩ := List.getElem?_eq_some_iff.1 HX.out
       refine ⟨x, by rw [← h6]; exact List.getElem_mem _, ?_⟩
       simp
       rw [HN1.out, HC.out]; exact h12
      rw [this]; rfl)
     clear h12
     go_wp2_with fail
     go_ret
     exact ⟨by rw [HF.out]; rfl, HE.out⟩
   ·obtain rfl : i = n2 := by omega
    have HT : Hid (s = 0) := Lib.hid (by
     rw [← hs'.out]
     have : evenB zss = true := by
      unfold evenB
      rw [List.all_eq_true]
      intro x hx
      obtain ⟨j, hj, rfl⟩ := List.getElem_of_mem hx
      exact decide_eq_true (HI.out j _ (by rw [← hl.out]; exact hj) (List.getElem?_eq_getElem hj))
     rw [this]; rfl)
    go_wp2_with fail
    go_ret
    exact ⟨by rw [HT.out]; rfl, HE.out⟩
set_option maxHeartbeats 2000000 in
theorem r11Size_any (K : Nat) (w : World) (b : Bool) (a a2 : Option Addr) (n c n2 c2 : Nat) (d : Int) (zss : List (List Int)) (h : MatS K w b a n c a2 n2 c2 d zss) (m : Nat) (hm : Hid (colsOf zss = m)) :
  Calls Tryz.prog 32 #[.agg #[.bool b, .slice a n c, .slice a2 n2 c2]] w fun e w' => e = .returned (.tuple #[.int .i64 (n2 : Int), .int .i64 (m : Int)]) ∧ Ext w w' := by
 obtain ⟨l, h1, h2, h3, h4⟩ := h
 clear h1 h2 h3
 have hmost := h4.most
 have hcap := h4.cap
 have hl := Lib.hid h4.len
 by_cases h0 : n2 = 0
 ·subst h0
  have HF : Hid (m = 0) := Lib.hid (by rw [← hm.out, List.length_eq_zero_iff.1 hl.out]; rfl)
  have hE : Ext w (w.alloc (Obj.cells #[.bool b, .slice a n c, .slice a2 0 c2] 28)) := (Below.refl _ _).alloc (Nat.le_refl _) _
  have HE := Lib.hid hE
  clear h4 hE
  go_enter Tryz.func32, Tryz.ntmps32
  go_wp2_with fail
  go_ret2
  exact ⟨by rw [HF.out]; rfl, HE.out⟩
 ·have hd0 : ((n2 : Int) == 0) = false := by simpa using h0
  obtain ⟨b', o', a3, n3, c3, y, rfl, hb2, hy, hc2, hY⟩ := Sl.getRow h4 (show 0 < n2 by omega)
  rw [Nat.add_zero] at hc2
  have hy2 : n3 = m := by
   rw [← hY.len, ← hm.out]
   cases zss with
   | nil => simp at hy
   | cons z zs => simp at hy; subst hy; rfl
  subst hy2
  have hE : Ext w (w.alloc (Obj.cells #[.bool b, .slice a n c, .slice (some ⟨b', o', none⟩) n2 c2] 28)) := (Below.refl _ _).alloc (Nat.le_refl _) _
  have HE := Lib.hid hE
  have hn2p : 0 < n2 := by omega
  clear hy hY h0 h4 hE
  go_enter Tryz.func32, Tryz.ntmps32
  go_wp2_with fail
  go_region
  all_goals
   go_wp2_with fail
   go_ret2
   exact ⟨rfl, HE.out.drew⟩
end Go.Proofs.YtbhenelehhiakaaGreat
namespace Go.Proofs.YtbhenelehhiakaaGreat
open Go.RowKit
theorem natAbs_div_le (z : Int) (g : Nat) : (z / (g : Int)).natAbs ≤ z.natAbs := by
 by_cases h : g = 0
 ·subst h; simp
 ·by_cases hz : 0 ≤ z
  ·have h1 : 0 ≤ z / (g : Int) := Int.ediv_nonneg hz (by omega)
   have h2 : z / (g : Int) ≤ z := Int.ediv_le_self _ hz
   omega
  ·have h1 : z / (g : Int) ≤ 0 := by
    exact Int.le_of_lt (Int.ediv_neg_of_neg_of_pos (by omega) (by omega))
   have h2 : z ≤ z / (g : Int) := by
    refine (Int.le_ediv_iff_mul_le (by omega)).2 ?_
    have h3 : z * (g : Int) ≤ z * 1 := Int.mul_le_mul_of_nonpos_left (by omega) (by omega)
    omega
   omega
theorem ratv_le (z d : Int) (hd : d ≠ 0) : (ratv z d).num.natAbs ≤ z.natAbs ∧ (ratv z d).den ≤ d.natAbs := by
 have key : ∀ z d : Int, 0 < d → (ratv z d).num.natAbs ≤ z.natAbs ∧ (ratv z d).den ≤ d.natAbs := fun z d hd => by
  rw [ratv_num hd]
  have h1 := ratv_den (z := z) hd
  have h2 := natAbs_div_le z (Int.gcd z d)
  have h3 := natAbs_div_le d (Int.gcd z d)
  exact ⟨h2, by omega⟩
 by_cases h : 0 < d
 ·exact key z d h
 ·have := key (-z) (-d) (by omega)
  rw [ratv_neg, Int.natAbs_neg, Int.natAbs_neg] at this
  exact this
def fracs (d : Int) (zss : List (List Int)) : List (List Rat) := zss.map fun zs => zs.map fun z => ratv z d
def RRows (K r c : Nat) (qss : List (List Rat)) (w : World) (e : Ending) (w' : World) : Prop := ∃ a c2 L css B, e = .returned (.slice a r c2) ∧ MG K w.heap.size w' a r c2 c L ∧ L.map Prod.snd = qss ∧ Ext w w' ∧ w.heap.size ≤ B ∧ B ≤ w'.heap.size ∧ Grp (rRowG K c) B 68 w' (.slice a r c2) r L css
structure RowsSt (K : Nat) (w : World) (c i : Nat) (vo : Value) (qss : List (List Rat)) (wr : World) : Prop where
 ex : ∃ L css, Grp (rRowG K c) w.heap.size 68 wr vo i L css ∧ L.map Prod.snd = qss ∧ (L.map Prod.fst).Pairwise (· ≠ ·) ∧ ∀ x ∈ L, x.1 < wr.heap.size ∧ vo.ownBlock ≠ some x.1
set_option maxRecDepth 100000 in
set_option maxHeartbeats 8000000 in
theorem r11Rows_any (K : Nat) (hK : K ≤ 549755813888) (w : World) (b : Bool) (a a2 : Option Addr) (n c n2 c2 : Nat) (d : Int) (zss : List (List Int)) (h : MatS K w b a n c a2 n2 c2 d zss) (hd0 : d ≠ 0) (m : Nat) (hrow : Hid (∀ zs ∈ zss, zs.length = m)) (hn2 : n2 ≤ 1099511627776) (hm : m ≤ 1099511627776) :
  Calls Tryz.prog 34 #[.agg #[.bool b, .slice a n c, .slice a2 n2 c2]] w (RRows K n2 m (fracs d zss) w) := by
 obtain ⟨cur, hcur, hmk⟩ := make_any under_rats info_rat m m (Nat.le_refl _) (by omega) (by omega)
 have hmk : ∀ w, (Instr.makeSlice 68 (.int .i64 (m : Int)) (.int .i64 (m : Int))).run Tryz.prog w = .ok (.slice (some ⟨w.heap.size, 0, none⟩) m m) (w.alloc (.cells cur 75)) := hmk
 have HCur := Lib.hid hcur
 clear hcur
 obtain ⟨l, h1, h2, h3, h4⟩ := h
 have HD := Lib.hid h2
 have HDL := Lib.hid h1
 have HS := Lib.hid h4
 have hmost2 := h4.most
 have hcap2 := h4.cap
 have hlen := Lib.hid h4.len
 have hKd : nl d.natAbs ≤ K := Nat.le_trans (nl_of h1 HD) h3
 clear h1 h2 h4
 go_enter Tryz.func34, Tryz.ntmps34
 go_wp2_with fail
 have p0 := Blk.new w 28 #[.bool b, .slice a n c, .slice a2 n2 c2]
 have hEW : Ext w (w.alloc (Obj.cells #[.bool b, .slice a n c, .slice a2 n2 c2] 28)) := ((Below.refl _ w).alloc (by simp) _)
 generalize hgW : w.alloc (Obj.cells #[.bool b, .slice a n c, .slice a2 n2 c2] 28) = W at *
 clear hgW
 replace p0_0 := p0.cell (i := 0) rfl
 replace p0_1 := p0.cell (i := 1) rfl
 replace p0_2 := p0.cell (i := 2) rfl
 have HP0 := Lib.hid p0
 have HEW := Lib.hid hEW
 have hW : w.heap.size + 1 ≤ W.heap.size := p0.lt
 clear p0 hEW
 go_loopg [3, 12] n2 (fun k vo vi wr => ∃ (i : Nat), i ≤ n2 ∧ k = n2 - i ∧ vi = .int .i64 (i : Int) ∧ Hid (RowsSt K W m i vo (fracs d (zss.take i)) wr) ∧ Hid (Ext W wr))
 case atStart => exact ⟨0, Nat.zero_le _, by omega, rfl, Lib.hid ⟨[], [], Grp.nil _ _ _ _, rfl, List.Pairwise.nil, fun x hx => absurd hx (by simp)⟩, Lib.hid (Ext.refl _)⟩
 case round =>
  obtain ⟨i, hi, hk, rfl, HF, HE⟩ := hrel
  by_cases hir : i < n2
  ·obtain ⟨wo, rfl⟩ : ∃ wo : World, wo = wr := ⟨_, rfl⟩
   have hE1 := Ext.trans HEW.out HE.out
   obtain ⟨b6, o6, a1, n1, c1, zs, rfl, hb6, hzs, hc8, hZ⟩ := Sl.getRow (HS.out.ext (Nat.le_refl _) hE1) hir
   have hn1 : n1 = m := by rw [← hZ.len]; exact hrow.out zs (List.mem_of_getElem? hzs)
   subst hn1
   have HZ := Lib.hid hZ
   have HZS := Lib.hid hzs
   have hcap1 := hZ.cap
   have hmost1 := hZ.most
   have hEA : Ext wo (wo.alloc (Obj.cells cur 75)) := (Below.refl _ _).alloc (Nat.le_refl _) _
   have HG0 : Hid (Grp (rRatK K) wo.heap.size 75 (wo.alloc (Obj.cells cur 75)) (.slice (some ⟨wo.heap.size, 0, none⟩) 0 n1) 0 [] []) := Lib.hid ⟨rfl, rfl, World.ownsRow_made wo cur n1 (Nat.le_refl _) (by unfold maxLen; omega) HCur.out, fun k hk => absurd hk (by simp)⟩
   clear hzs hZ hE1
   go_wp2_with fail
   go_loopg [21] n1 (fun k vi w2 => ∃ (j : Nat), j ≤ n1 ∧ k = n1 - j ∧ vi = .int .i64 (j : Int) ∧ Hid (∃ css, Grp (rRatK K) wo.heap.size 75 w2 (.slice (some ⟨wo.heap.size, 0, none⟩) j n1) j ((zs.take j).map fun z => ratv z d) css) ∧ Hid (Ext wo w2))
   case atStart => exact ⟨0, Nat.zero_le _, by omega, rfl, Lib.hid ⟨[], HG0.out⟩, Lib.hid hEA⟩
   case round =>
    obtain ⟨j, hj, hk2, rfl, HGj, HEj⟩ := hrel
    by_cases hjc : j < n1
    ·obtain ⟨css, hGj⟩ := HGj.out
     have hgl := hGj.cell.1
     have hjc' : (j : Int) < (n1 : Int) := by omega
     obtain ⟨b7, o7, s7, a7, n7, c7, l7, z, rfl, hb7, hz7, hc9, hc10, h7, hi7, hn7⟩ := (HZ.out.ext (Nat.le_refl _) HEj.out).getInt hjc
     obtain ⟨hkl, hze⟩ := List.getElem?_eq_some_iff.1 hz7
     have HTK : Hid ((zs.take (j + 1)).map (fun z => ratv z d) = (zs.take j).map (fun z => ratv z d) ++ [ratv z d]) := Lib.hid (by rw [List.take_succ_eq_append_getElem hkl, hze, List.map_append]; rfl)
     have HI7 := Lib.hid hi7
     have H7 := Lib.hid h7
     have hE8 := Ext.trans HE.out HEj.out
     have p0 := HP0.out.ext hE8
     have hKz : nl z.natAbs ≤ K := Nat.le_trans (nl_of h7 HI7) hn7
     obtain ⟨hq1, hq2⟩ := ratv_le z d hd0
     have hq1 := Nat.le_trans (nl_mono hq1) hKz
     have hq2 := Nat.le_trans (nl_mono hq2) hKd
     have HDL2 := Lib.hid (HDL.out.ext (Nat.le_refl _) (Ext.trans HEW.out hE8))
     obtain ⟨q, hq⟩ : ∃ q, ratv z d = q := ⟨_, rfl⟩
     have HQ := Lib.hid hq
     rw [hq] at hq1 hq2 HTK
     have hszr := HEj.out.size
     clear hz7 hze hi7 h7 hE8 hq hGj
     skip
     replace p0_0 := p0.cell (i := 0) rfl
     replace p0_1 := p0.cell (i := 1) rfl
     replace p0_2 := p0.cell (i := 2) rfl
     replace p0_f0 := p0.free 0
     replace p0_f1 := p0.free 1
     replace p0_f2 := p0.free 2
     replace p0_lt := p0.lt
     go_wp2_with fail
     have u := Blk.new wr 25 #[.bool s7, .slice a7 n7 c7]
     have hEW9 : Ext wr (wr.alloc (Obj.cells #[.bool s7, .slice a7 n7 c7] 25)) := ((Below.refl _ wr).alloc (by simp) _)
     generalize hgW9 : wr.alloc (Obj.cells #[.bool s7, .slice a7 n7 c7] 25) = W9 at *
     clear hgW9
     replace u_0 := u.cell (i := 0) rfl
     replace u_1 := u.cell (i := 1) rfl
     refine (r5Make_z s7 b 0 W9 _ _ _ _ _ _ l7 l z d q (H7.out.ext (Nat.le_refl _) hEW9) (HDL2.out.ext (Nat.le_refl _) hEW9) (by omega) (by omega) HI7 HD hd0 HQ).mono ?_
     rintro e w5 ⟨a8, n8, c8, a9, n9, c9, rfl, h8, h9, hE9⟩
     obtain ⟨bb, hbb⟩ : ∃ bb, decide (q.num < 0) = bb := ⟨_, rfl⟩
     rw [hbb]
     have hE5 := Ext.trans hEW9 hE9
     have hsz5 := hE5.size
     have hG5 := HGj.out.choose_spec.keep hE5.size (fun b _ h2 => hE5.block b h2)
     generalize HGj.out.choose = css at *
     obtain ⟨hg1, hg2, hg3⟩ := hG5.cell
     have q0 := hg3 (j * 4) (show j * 4 < n1 * 4 by omega)
     have q1 := hg3 (j * 4 + 1) (show j * 4 + 1 < n1 * 4 by omega)
     have q2 := hg3 (j * 4 + 2) (show j * 4 + 2 < n1 * 4 by omega)
     have q3 := hg3 (j * 4 + 3) (show j * 4 + 3 < n1 * 4 by omega)
     obtain ⟨⟨u0, s0⟩, f0⟩ := q0
     obtain ⟨⟨u1, s1⟩, f1⟩ := q1
     obtain ⟨⟨u2, s2⟩, f2⟩ := q2
     obtain ⟨⟨u4, s3⟩, f3⟩ := q3
     have HP := Lib.hid (hG5.put hjc (x := q) (cs := [.bool bb, .slice a8 n8 c8, .bool false, .slice a9 n9 c9]) (Bx := wr.heap.size) (ratK_of (q := q) (K := K) (h8.mono hEW9.size (Kept.refl _ _)) (h9.mono hEW9.size (Kept.refl _ _)) hq1 hq2 bb hbb) hszr hgl)
     have HEP := Lib.hid (Ext.trans HEj.out hE5)
     clear hG5 hg3 h8 h9 hE5 hE9 hEW9 hbb u u_0 u_1 p0 p0_0 p0_1 p0_2 p0_f0 p0_f1 p0_f2 p0_lt hc9 hc10
     go_wp2_with fail
     go_roundg (n1 - (j + 1))
     case measure => omega
     case rel => exact ⟨j + 1, by omega, rfl, by go_num, Lib.hid ⟨css ++ [[.bool bb, .slice a8 n8 c8, .bool false, .slice a9 n9 c9]], by rw [HTK.out]; exact HP.out⟩, Lib.hid (ext_set4' HEP.out (j * 4) _ _ _ _)⟩
    ·obtain rfl : j = n1 := by omega
     obtain ⟨css, hGj⟩ := HGj.out
     obtain ⟨ar, cr, hv, hsr⟩ := hGj.sl
     cases hv
     have hgl := hGj.cell.1
     have hzl : zs.length = j := HZ.out.len
     have hfull : zs.take j = zs := List.take_of_length_le (by omega)
     rw [hfull] at hsr
     have HTR : Hid (fracs d (zss.take (i + 1)) = fracs d (zss.take i) ++ [zs.map fun z => ratv z d]) := Lib.hid (by
      obtain ⟨htl, hze⟩ := List.getElem?_eq_some_iff.1 HZS.out
      unfold fracs
      rw [List.take_succ_eq_append_getElem htl, hze, List.map_append]; rfl)
     generalize hzq : (zs.map fun z => ratv z d) = zq at *
     have hEB : Ext wr (wr.alloc (Obj.cells #[.slice (some ⟨wo.heap.size, 0, none⟩) j j] 68)) := (Below.refl _ _).alloc (Nat.le_refl _) _
     have hEB2 := Ext.trans HEj.out hEB
     obtain ⟨L, css2, hGo, hL1, hL2, hL3⟩ := HF.out.ex
     have hlt11 := hGo.own.lt
     have hG11 := Lib.hid (hGo.keep hEB2.size (fun b _ h2 => hEB2.block b h2))
     have H11 := Lib.hid (hsr.ext (Nat.le_refl _) hEB)
     have HE11 := Lib.hid (Ext.trans HE.out hEB2)
     have HEs := HE.out.size
     have hszB := hEB2.size
     have hnews : ∀ (j' : Nat) (u : Value), [Value.slice (some ⟨wo.heap.size, 0, none⟩) j j][j']? = some u → (wr.alloc (Obj.cells #[.slice (some ⟨wo.heap.size, 0, none⟩) j j] 68)).cell? ((⟨wr.heap.size, 0, none⟩ : Addr).add j') = some u := fun j' u hu => by
      match j', hu with
      | 0, hu => cases hu; exact (Blk.new wr 68 #[.slice (some ⟨wo.heap.size, 0, none⟩) j j]).cell (i := 0) rfl
      | k + 1, hu => simp at hu
     obtain ⟨i0, hi0, hz0, hz1, hz2⟩ := info_parts info_rats
     have HL1 := Lib.hid hL1
     have HL2 := Lib.hid hL2
     have HL3 := Lib.hid hL3
     clear hGo hGj hEB2 hsr hEB hL1 hL2 hL3 hzl hfull hzq
     go_wp2_with (at_builtin; refine wpList_append_own_at _ rfl _ _ 53 rfl W.heap.size 68 i0 _ 1 24 under_ratss hi0 hz0 hz1 hz2 rfl (by decide) _ _ _ rfl hG11.out.own ⟨wr.heap.size, 0, none⟩ 1 1 [.slice (some ⟨wo.heap.size, 0, none⟩) j j] rfl rfl hnews (by simp [Value.oneCell']) (by unfold maxLen; omega) (by omega) (by exact HE11.out.size) ?_; intro v' w1 hown' hgrow _ hat)
     go_roundg (n2 - (i + 1))
     case measure => omega
     case rel =>
      refine ⟨i + 1, by omega, rfl, by go_num, Lib.hid ⟨L ++ [(wo.heap.size, zq)], css2 ++ [[.slice (some ⟨wo.heap.size, 0, none⟩) j j]], ?_, ?_, ?_, ?_⟩, Lib.hid (HE11.out.grown hgrow HE11.out.size (fun k e => (hlt11 k e).1))⟩
      ·exact hG11.out.add hown' hgrow hat (x := (wo.heap.size, zq)) (Bx := wo.heap.size) ⟨rfl, H11.out⟩ HEs (fun k e => (hlt11 k e).2)
      ·rw [List.map_append, HL1.out, HTR.out]; rfl
      ·rw [List.map_append, List.pairwise_append]
       refine ⟨HL2.out, List.pairwise_singleton _ _, fun x hx y hy => ?_⟩
       obtain ⟨z, hz, rfl⟩ := List.mem_map.1 hx
       have := (HL3.out z hz).1
       simp at hy
       omega
      ·have hgs := hgrow.size
       rw [World.size_alloc] at hgs
       intro x hx
       rcases List.mem_append.1 hx with hx | hx
       ·obtain ⟨h1, h2⟩ := HL3.out x hx
        refine ⟨by omega, ?_⟩
        rcases hat with hat | hat
        ·rw [hat]; exact h2
        ·rw [hat, World.size_alloc]; intro e; have e2 := Option.some.inj e; (try simp only at e2); omega
       ·obtain rfl : x = (wo.heap.size, zq) := by simpa using hx
        refine ⟨by show wo.heap.size < _; omega, ?_⟩
        rcases hat with hat | hat
        ·rw [hat]; intro e; have := (hlt11 _ e).2; exact absurd this (Nat.lt_irrefl _)
        ·rw [hat, World.size_alloc]; intro e; have e2 := Option.some.inj e; (try simp only at e2); omega
  ·obtain rfl : i = n2 := by omega
   obtain ⟨L, css, hG, hL1, hL2, hL3⟩ := HF.out.ex
   obtain ⟨aa, ca, rfl, hsl⟩ := hG.sl
   have HR : Hid (RRows K i m (fracs d zss) w (.returned (.slice aa i ca)) wr) := Lib.hid ⟨aa, ca, L, css, W.heap.size, rfl, ⟨hsl.mono (by omega) (Kept.refl _ _), fun b o e x hx => by
    subst e
    have := (hL3 x hx).2
    intro e; subst e
    exact this (own_head hG.own), hL2⟩, by rw [hL1, List.take_of_length_le (by rw [hlen.out]; exact Nat.le_refl _)], Ext.trans HEW.out HE.out, by omega, HE.out.size, hG⟩
   clear hG hsl hL1 hL2 hL3
   go_wp2_with fail
   go_ret
   exact HR.out
end Go.Proofs.YtbhenelehhiakaaGreat
namespace Go.Proofs.YtbhenelehhiakaaGreat
open Go.RowKit
def Yes (w : World) (e : Ending) (w' : World) : Prop := e = .returned (.bool true) ∧ Ext w w'
set_option maxHeartbeats 1000000 in
theorem same_yes (w : World) (b : Bool) (a a2 a3 a4 : Option Addr) (n c n2 c2 n3 c3 n4 c4 : Nat) (l : Nt) (xss : List (List It)) (h : NatS 0 w a n c l) (h2 : NatS 0 w a2 n2 c2 l) (h3 : Sl rInts 0 w a3 n3 c3 xss) (h4 : Sl rInts 0 w a4 n4 c4 xss) :
  Calls Tryz.prog 29 #[.agg #[.bool b, .slice a n c, .slice a3 n3 c3], .agg #[.bool b, .slice a2 n2 c2, .slice a4 n4 c4]] w (Yes w) := by
 go_enter Tryz.func29, Tryz.ntmps29
 go_wp2_with fail
 have p0 := Blk.new w 28 #[.bool b, .slice a n c, .slice a3 n3 c3]
 have p1 := Blk.new (w.alloc (Obj.cells #[.bool b, .slice a n c, .slice a3 n3 c3] 28)) 28 #[.bool b, .slice a2 n2 c2, .slice a4 n4 c4]
 replace p0 := p0.ext ((Below.refl _ _).alloc (Nat.le_refl _) (Obj.cells #[.bool b, .slice a2 n2 c2, .slice a4 n4 c4] 28))
 have hEW : Ext w ((w.alloc (Obj.cells #[.bool b, .slice a n c, .slice a3 n3 c3] 28)).alloc (Obj.cells #[.bool b, .slice a2 n2 c2, .slice a4 n4 c4] 28)) := (((Below.refl _ w).alloc (by simp) _).alloc (by simp) _)
 generalize hgW : (w.alloc (Obj.cells #[.bool b, .slice a n c, .slice a3 n3 c3] 28)).alloc (Obj.cells #[.bool b, .slice a2 n2 c2, .slice a4 n4 c4] 28) = W at *
 clear hgW
 simp only [World.size_alloc] at p1
 have p0_ne_p1 : ¬ w.heap.size = w.heap.size + 1 := by omega
 have p1_ne_p0 : ¬ w.heap.size + 1 = w.heap.size := by omega
 replace p0_0 := p0.cell (i := 0) rfl
 replace p0_1 := p0.cell (i := 1) rfl
 replace p0_2 := p0.cell (i := 2) rfl
 replace p1_0 := p1.cell (i := 0) rfl
 replace p1_1 := p1.cell (i := 1) rfl
 replace p1_2 := p1.cell (i := 2) rfl
 refine (r11Same_any W b b a a2 a3 a4 n c n2 c2 n3 c3 n4 c4 l l xss xss (h.ext (Nat.le_refl _) hEW) (h2.ext (Nat.le_refl _) hEW) (h3.ext (Nat.le_refl _) hEW) (h4.ext (Nat.le_refl _) hEW) true (Lib.hid (by simp))).mono ?_
 rintro e w1 ⟨rfl, hE1⟩
 have HE := Lib.hid (Ext.trans hEW hE1)
 clear h h2 h3 h4 hEW hE1
 go_wp2_with fail
 go_ret
 exact ⟨rfl, HE.out⟩
end Go.Proofs.YtbhenelehhiakaaGreat
namespace Go.Proofs.YtbhenelehhiakaaGreat
open Go.RowKit
section
variable {P : Program} {md : Region.Mode} {ops : Array Oper} {Q : Exit → Act → World → Prop} {S : World → Prop}
theorem put_some {a : Act} {o : Oper} {d : Nat} {v : Value} (hd : o.dst = some d) : a.put o.dst v = { tmps := a.tmps.setIfInBounds d v, defers := a.defers } := by rw [hd]; rfl
theorem takeD (i d : Nat) {oi : Oper} {v : Value} {fuel : Nat} {listed : Array Bool} {a : Act} {w : World} (hi : ops[i]? = some oi) (hd : oi.dst = some d)
  (hs : Region.noSelect ops = true) (hf : Region.free md ops listed i = true) (hr : (Region.ready md ops listed).contains i = true)
  (hQ : ∀ c a w, Q (.panic c) (a.put oi.dst v) w → Q (.panic c) a w) (hy : YieldsIf P ops S oi v a) (hS : S w)
  (h : wpAnyH P md ops Q S fuel (listed.setIfInBounds i true) { tmps := a.tmps.setIfInBounds d v, defers := a.defers } w) : wpAnyH P md ops Q S (fuel + 1) listed a w :=
 wpAnyH_take hi hs hf hr hQ hy hS (by rw [put_some hd]; exact h)
theorem stepD (i : Nat) {oi : Oper} {fuel : Nat} {listed : Array Bool} {a : Act} {w : World} (hi : ops[i]? = some oi) (hr : Region.ready md ops listed = [i])
  (h : ∀ K' : Act → World → Prop, Shut (∀ a w, S w → (S w → wpAnyH P md ops Q S fuel (listed.setIfInBounds i true) a w) → K' a w) → if Region.wanted oi (yielded ops a.tmps) = true then Oper.wp P oi a w K' Q else K' (a.put oi.dst undef) w) : wpAnyH P md ops Q S (fuel + 1) listed a w :=
 wpAnyH_ready hr (by simp) (AllReadyH.cons hi h AllReadyH.nil)
theorem skipD (i d : Nat) {oi : Oper} {fuel : Nat} {listed : Array Bool} {a : Act} {w : World} (hi : ops[i]? = some oi) (hd : oi.dst = some d) (hr : Region.ready md ops listed = [i]) (hw : Region.wanted oi (yielded ops a.tmps) = false) (hS : S w)
  (h : wpAnyH P md ops Q S fuel (listed.setIfInBounds i true) { tmps := a.tmps.setIfInBounds d undef, defers := a.defers } w) : wpAnyH P md ops Q S (fuel + 1) listed a w :=
 stepD i hi hr fun K hK => by rw [if_neg (by rw [hw]; decide), put_some hd]; exact hK.out _ _ hS (fun _ => h)
end
def RRaw (w : World) (d : Nat) (zss : List (List Int)) (e : Ending) (w' : World) : Prop := ∃ a n c a2 n2 c2, e = .returned (.tuple #[.agg #[.bool false, .slice a n c, .slice a2 n2 c2], .int .i64 0]) ∧ NatS 0 w' a n c (limbs d) ∧ Sl rInts 0 w' a2 n2 c2 (zss.map fun zs => zs.map rawI) ∧ Ext w w'
def RRaw1 (w : World) (d : Nat) (zss : List (List Int)) (e : Ending) (w' : World) : Prop := ∃ a n c a2 n2 c2, e = .returned (.agg #[.bool false, .slice a n c, .slice a2 n2 c2]) ∧ NatS 0 w' a n c (limbs d) ∧ Sl rInts 0 w' a2 n2 c2 (zss.map fun zs => zs.map rawI) ∧ Ext w w'
theorem RMatOk.raw {w w' : World} {D : Int} {zss : List (List Int)} {e : Ending} (h : RMatOk w D zss e w') (d : Nat) (hd : D = d) : RRaw w d zss e w' := by
 subst hd
 obtain ⟨a, n, c, a2, n2, c2, he, h1, h2, h3⟩ := h
 have hb : decide (((d : Nat) : Int) < 0) = false := by simp
 rw [hb] at he
 exact ⟨a, n, c, a2, n2, c2, he, Sl.zero h1, rawRows h2, h3⟩
theorem RFrom.raw {w w' : World} {d : Nat} {zss : List (List Int)} {e : Ending} (h : RFrom w d zss e w') : RRaw1 w d zss e w' := by
 obtain ⟨a, n, c, a2, n2, c2, he, h1, h2, h3⟩ := h
 exact ⟨a, n, c, a2, n2, c2, he, Sl.zero h1, rawRows h2, h3⟩
end Go.Proofs.YtbhenelehhiakaaGreat
namespace Go.Proofs.YtbhenelehhiakaaGreat
open Go.RowKit
theorem length_fracs (d : Int) (l : List (List Int)) : (fracs d l).length = l.length := List.length_map ..
end Go.Proofs.YtbhenelehhiakaaGreat
namespace Go.Proofs.YtbhenelehhiakaaGreat
open Go.RowKit
theorem intB_of_K {K B : Nat} (hK : K ≤ 8796093022208) {w : World} {a : Option Addr} {n c : Nat} {zss : List (List Int)} (h : Sl (rIntK K).slice B w a n c zss) : Sl rIntB.slice B w a n c zss :=
 h.weak (Nat.le_refl _) rfl fun _ _ ⟨a1, n1, c1, e, hz⟩ => ⟨a1, n1, c1, e, hz.weak (Nat.le_refl _) rfl fun _ _ ⟨b, a2, n2, c2, l, e2, h3, h4, h5⟩ => ⟨b, a2, n2, c2, l, e2, h3, h4, Nat.le_trans h5 hK⟩⟩
theorem checkE_zero {d : Int} {zss : List (List Int)} (h : checkE d zss = 0) : d ≠ 0 ∧ evenB zss = true := by
 unfold checkE at h
 by_cases hd : d = 0
 ·rw [if_pos hd] at h; cases h
 ·rw [if_neg hd] at h
  refine ⟨hd, ?_⟩
  cases he : evenB zss with
  | true => rfl
  | false => rw [he] at h; cases h
set_option maxHeartbeats 4000000 in
theorem qnorm_any (K : Nat) (hK : K ≤ 8796093022208) (w : World) (b : Bool) (a a2 : Option Addr) (n c n2 c2 : Nat) (d : Int) (zss : List (List Int)) (h : MatS K w b a n c a2 n2 c2 d zss) (hs : Hid (checkE d zss = 0)) (hn2 : n2 ≤ 1099511627776) (hrow : Hid (∀ zs ∈ zss, zs.length ≤ 1099511627776)) :
  Calls Tryz.prog 23 #[.agg #[.bool b, .slice a n c, .slice a2 n2 c2]] w (RMatOk w (madeDen d zss) (madeRows d zss)) := by
 go_enter Tryz.func23, Tryz.ntmps23
 go_wp2_with fail
 have p0 := Blk.new w 28 #[.bool b, .slice a n c, .slice a2 n2 c2]
 have r := Blk.new (w.alloc (Obj.cells #[.bool b, .slice a n c, .slice a2 n2 c2] 28)) 28 #[.bool false, .slice none 0 0, .slice none 0 0]
 replace p0 := p0.ext ((Below.refl _ _).alloc (Nat.le_refl _) (Obj.cells #[.bool false, .slice none 0 0, .slice none 0 0] 28))
 have hEW : Ext w ((w.alloc (Obj.cells #[.bool b, .slice a n c, .slice a2 n2 c2] 28)).alloc (Obj.cells #[.bool false, .slice none 0 0, .slice none 0 0] 28)) := (((Below.refl _ w).alloc (by simp) _).alloc (by simp) _)
 generalize hgW : (w.alloc (Obj.cells #[.bool b, .slice a n c, .slice a2 n2 c2] 28)).alloc (Obj.cells #[.bool false, .slice none 0 0, .slice none 0 0] 28) = W at *
 clear hgW
 simp only [World.size_alloc] at r
 have p0_ne_r : ¬ w.heap.size = w.heap.size + 1 := by omega
 have r_ne_p0 : ¬ w.heap.size + 1 = w.heap.size := by omega
 replace p0_0 := p0.cell (i := 0) rfl
 replace p0_1 := p0.cell (i := 1) rfl
 replace p0_2 := p0.cell (i := 2) rfl
 replace r_0 := r.cell (i := 0) rfl
 replace r_1 := r.cell (i := 1) rfl
 replace r_2 := r.cell (i := 2) rfl
 replace r_f0 := r.free 0
 replace r_f1 := r.free 1
 replace r_f2 := r.free 2
 replace r_lt := r.lt
 have hW : w.heap.size + 1 + 1 ≤ W.heap.size := r_lt
 refine (check_any K hK W b a a2 n c n2 c2 d zss (h.ext hEW) 0 hs).mono ?_
 rintro e w1 ⟨rfl, hE1⟩
 replace p0 := p0.ext hE1; replace p0_0 := p0.cell (i := 0) rfl; replace p0_1 := p0.cell (i := 1) rfl; replace p0_2 := p0.cell (i := 2) rfl; replace r := r.ext hE1; replace r_0 := r.cell (i := 0) rfl; replace r_1 := r.cell (i := 1) rfl; replace r_2 := r.cell (i := 2) rfl; replace r_f0 := r.free 0; replace r_f1 := r.free 1; replace r_f2 := r.free 2; replace r_lt := r.lt
 have hE0 := Ext.trans hEW hE1
 have hsz := hE1.size
 obtain ⟨l, h1, h2, h3, h4⟩ := h.ext hE0
 have HD := Lib.hid h2
 obtain ⟨xss, hG, hxz⟩ := grid_of (intB_of_K hK h4) hn2 hrow.out
 have HG := Lib.hid hG
 have HXZ := Lib.hid hxz
 have hd0 := (checkE_zero hs.out).1
 clear h2 h4 hG hxz h hEW hE1
 go_wp2_with fail
 refine (made_any w1 b a a2 n c n2 c2 l xss h1 HG.out (by omega) d HD hd0).mono ?_
 rintro e w5 ⟨a5, n5, c5, a6, n6, c6, rfl, h5, h6, hE5⟩
 rw [HXZ.out] at h5 h6 ⊢
 replace r := r.ext hE5; replace r_0 := r.cell (i := 0) rfl; replace r_1 := r.cell (i := 1) rfl; replace r_2 := r.cell (i := 2) rfl; replace r_f0 := r.free 0; replace r_f1 := r.free 1; replace r_f2 := r.free 2; replace r_lt := r.lt
 generalize madeDen d zss = de at *
 generalize madeRows d zss = zz at *
 have HF := Lib.hid (RMatOk.box (w := w) (r := w.heap.size + 1) (v0 := .bool (decide (de < 0))) (v1 := .slice a5 n5 c5) (v2 := .slice a6 n6 c6) (by omega) (show w.heap.size + 1 < w1.heap.size by omega) (Ext.trans hE0 hE5) h5 h6)
 clear h1 h5 h6 hE0 hE5 hd0
 generalize decide (de < 0) = sg at *
 have r2 := ((r.set 0 (.bool sg)).set 1 (.slice a5 n5 c5)).set 2 (.slice a6 n6 c6)
 have hr0 := r2.cell (i := 0) rfl
 have hr1 := r2.cell (i := 1) rfl
 have hr2 := r2.cell (i := 2) rfl
 go_wp2_with fail
 exact bodyPost_ret (v := .tuple #[.agg #[.bool sg, .slice a5 n5 c5, .slice a6 n6 c6], .int .i64 0]) (by simp [results, Tryz.results23, go_sem, hr0, hr1, hr2]) rfl HF.out
set_option maxHeartbeats 1000000 in
theorem qsize_any (K : Nat) (hK : K ≤ 8796093022208) (w : World) (b : Bool) (a a2 : Option Addr) (n c n2 c2 : Nat) (d : Int) (zss : List (List Int)) (h : MatS K w b a n c a2 n2 c2 d zss) (hn2 : n2 ≤ 1099511627776) (hrow : Hid (∀ zs ∈ zss, zs.length ≤ 1099511627776)) (m : Nat) (hm : Hid (colsOf zss = m)) :
  Calls Tryz.prog 81 #[.agg #[.bool b, .slice a n c, .slice a2 n2 c2]] w fun e w' => e = .returned (.tuple #[.int .i64 (n2 : Int), .int .i64 (m : Int)]) ∧ Ext w w' := by
 go_enter Tryz.func81, Tryz.ntmps81
 go_wp2_with fail
 have p0 := Blk.new w 28 #[.bool b, .slice a n c, .slice a2 n2 c2]
 have hEW : Ext w (w.alloc (Obj.cells #[.bool b, .slice a n c, .slice a2 n2 c2] 28)) := ((Below.refl _ w).alloc (by simp) _)
 generalize hgW : w.alloc (Obj.cells #[.bool b, .slice a n c, .slice a2 n2 c2] 28) = W at *
 clear hgW
 replace p0_0 := p0.cell (i := 0) rfl
 replace p0_1 := p0.cell (i := 1) rfl
 replace p0_2 := p0.cell (i := 2) rfl
 have hd : Ext W W.drew := (Below.refl _ _).drew
 have hE0 := Ext.trans hEW hd
 obtain ⟨l, h1, h2, h3, h4⟩ := h.ext hE0
 obtain ⟨xss, hG, hxz⟩ := grid_of (intB_of_K hK h4) hn2 hrow.out
 have HG := Lib.hid hG
 have HC : Hid (colsOf xss = m) := Lib.hid (by
  rw [← hm.out, ← hxz]
  cases xss with
  | nil => rfl
  | cons x l => simp [zssOf, colsOf])
 have HE := Lib.hid hE0
 replace p0 := p0.ext hd; replace p0_0 := p0.cell (i := 0) rfl; replace p0_1 := p0.cell (i := 1) rfl; replace p0_2 := p0.cell (i := 2) rfl
 clear h1 h2 h3 h4 hG hxz h hEW hd hE0
 go_region_held3 (fun w' => w'.cell? ⟨w.heap.size, 0, none⟩ = some (.bool b) ∧ w'.cell? ⟨w.heap.size, 1, none⟩ = some (.slice a n c) ∧ w'.cell? ⟨w.heap.size, 2, none⟩ = some (.slice a2 n2 c2)) (first | exact ⟨p0_0, p0_1, p0_2⟩ | go_keep)
  (first | (go_at_call 113; refine (gridCols_any W.drew _ a2 n2 c2 xss HG.out (Below.refl _ _)).mono ?_; rintro e w5 ⟨rfl, rfl⟩))
 all_goals
  rw [HC.out]
  go_wp2_with fail
  go_ret2
  exact ⟨rfl, HE.out⟩
end Go.Proofs.YtbhenelehhiakaaGreat
namespace Go.Proofs.YtbhenelehhiakaaGreat
open Go.RowKit
def rMatK (K : Nat) : Rd (Int × List (List Int)) where
 size := 3
 ok B w cs x := ∃ b a n c a2 n2 c2, cs = [.bool b, .slice a n c, .slice a2 n2 c2] ∧ ∃ l, NatS B w a n c l ∧ ival b l = x.1 ∧ n ≤ K ∧ Sl (rIntK K).slice B w a2 n2 c2 x.2
 len h := by obtain ⟨b, a, n, c, a2, n2, c2, h, _⟩ := h; rw [h]; rfl
 mono h hB hk := by
  obtain ⟨b, a, n, c, a2, n2, c2, h, l, h1, h2, h3, h4⟩ := h
  exact ⟨b, a, n, c, a2, n2, c2, h, l, h1.mono hB hk, h2, h3, h4.mono hB hk⟩
theorem Sl.getMat {K B : Nat} {w : World} {a : Option Addr} {n c : Nat} {xs : List (Int × List (List Int))} (h : Sl (rMatK K) B w a n c xs) {i : Nat} (hi : i < n) : ∃ b o s a1 n1 c1 a2 n2 c2 x, a = some ⟨b, o, none⟩ ∧ b < w.heap.size ∧ xs[i]? = some x ∧ w.cell? ⟨b, o + i * 3, none⟩ = some (.bool s) ∧ w.cell? ⟨b, o + i * 3 + 1, none⟩ = some (.slice a1 n1 c1) ∧ w.cell? ⟨b, o + i * 3 + 2, none⟩ = some (.slice a2 n2 c2) ∧ MatS K w s a1 n1 c1 a2 n2 c2 x.1 x.2 := by
 have hl : i < xs.length := by rw [h.len]; exact hi
 obtain ⟨b, o, cs, ha, ⟨s, a1, n1, c1, a2, n2, c2, rfl, l, h1, h2, h3, h4⟩, hc⟩ := h.at_ i hl
 exact ⟨b, o, s, a1, n1, c1, a2, n2, c2, _, ha, cel_lt (hc 0 (by simp)), List.getElem?_eq_getElem hl, (hc 0 (by simp)).cell, (hc 1 (by simp)).cell, (hc 2 (by simp)).cell, l, Sl.zero h1, h2, h3, Sl.zero h4⟩
def checksE (ms : List (Int × List (List Int))) : Int := match ms with
 | [] => 0
 | m :: ms => if checkE m.1 m.2 = 0 then checksE ms else checkE m.1 m.2
theorem checksE_take (ms : List (Int × List (List Int))) : ∀ (i : Nat), (∀ j x, j < i → ms[j]? = some x → checkE x.1 x.2 = 0) → checksE ms = checksE (ms.drop i) := by
 induction ms with
 | nil => intro i _; simp
 | cons m ms ih =>
  intro i h
  cases i with
  | zero => rfl
  | succ i =>
   rw [List.drop_succ_cons, ← ih i (fun j x hj hx => h (j + 1) x (by omega) (by simpa using hx))]
   conv => lhs; unfold checksE
   rw [if_pos (h 0 m (by omega) rfl)]
set_option maxRecDepth 100000 in
set_option maxHeartbeats 2000000 in
theorem checks_any (K : Nat) (hK : K ≤ 8796093022208) (w : World) (a : Option Addr) (n c : Nat) (ms : List (Int × List (List Int))) (h : Sl (rMatK K) 0 w a n c ms) (s : Int) (hs : Hid (checksE ms = s)) :
  Calls Tryz.prog 82 #[.slice a n c] w fun e w' => e = .returned (.int .i64 s) ∧ Ext w w' := by
 have hmost := h.most
 have hcap := h.cap
 have HS := Lib.hid h
 have hl := Lib.hid h.len
 clear h
 go_enter Tryz.func82, Tryz.ntmps82
 go_wp2_with fail
 go_loopg [8] n (fun q vi wr => ∃ i : Nat, i ≤ n ∧ q = n - i ∧ vi = .int .i64 (i : Int) ∧ Hid (∀ j x, j < i → ms[j]? = some x → checkE x.1 x.2 = 0) ∧ Hid (Ext w wr))
 case atStart => exact ⟨0, Nat.zero_le _, by omega, rfl, Lib.hid (fun j _ hj => by omega), Lib.hid (Ext.refl _)⟩
 case round =>
  obtain ⟨i, hi, hq, rfl, HI, HE⟩ := hrel
  by_cases hin : i < n
  ·obtain ⟨b5, o5, s5, a5, n5, c5, a6, n6, c6, x, rfl, hb5, hx, hc5, hc6, hc7, h5⟩ := HS.out.getMat hin
   replace hc5 := (HE.out.cell (p := ⟨b5, o5 + i * 3, none⟩) hb5).trans hc5
   replace hc6 := (HE.out.cell (p := ⟨b5, o5 + i * 3 + 1, none⟩) hb5).trans hc6
   replace hc7 := (HE.out.cell (p := ⟨b5, o5 + i * 3 + 2, none⟩) hb5).trans hc7
   have H5 := Lib.hid (h5.ext HE.out)
   have HX := Lib.hid hx
   clear hx h5
   go_wp2_with fail
   have y := Blk.new wr 28 #[.bool s5, .slice a5 n5 c5, .slice a6 n6 c6]
   have hEW2 : Ext wr (wr.alloc (Obj.cells #[.bool s5, .slice a5 n5 c5, .slice a6 n6 c6] 28)) := ((Below.refl _ wr).alloc (by simp) _)
   generalize hgW2 : wr.alloc (Obj.cells #[.bool s5, .slice a5 n5 c5, .slice a6 n6 c6] 28) = W2 at *
   clear hgW2
   replace y_0 := y.cell (i := 0) rfl
   replace y_1 := y.cell (i := 1) rfl
   replace y_2 := y.cell (i := 2) rfl
   have HEY := Lib.hid (Ext.trans HE.out hEW2)
   clear hc5 hc6 hc7
   obtain ⟨t, ht⟩ : ∃ t, checkE x.1 x.2 = t := ⟨_, rfl⟩
   have HT := Lib.hid ht
   refine (check_any K hK W2 s5 a5 a6 n5 c5 n6 c6 x.1 x.2 (H5.out.ext hEW2) t HT).mono ?_
   rintro e w3 ⟨rfl, hE3⟩
   have HE3 := Lib.hid (Ext.trans HEY.out hE3)
   clear ht hE3 hEW2 y y_0 y_1 y_2
   by_cases ht0 : t = 0
   ·subst ht0
    go_wp2_with fail
    go_roundg (n - (i + 1))
    case measure => omega
    case rel => exact ⟨i + 1, by omega, rfl, by go_num, Lib.hid (fun j z hj hz => by
     by_cases hji : j < i
     ·exact HI.out j z hji hz
     ·obtain rfl : j = i := by omega
      rw [HX.out] at hz
      cases hz
      exact HT.out), HE3⟩
   ·have hne : (t != 0) = true := by simpa using ht0
    have HF : Hid (s = t) := Lib.hid (by
     rw [← hs.out, checksE_take ms i HI.out]
     obtain ⟨h8, h9⟩ := List.getElem?_eq_some_iff.1 HX.out
     rw [List.drop_eq_getElem_cons h8, h9]
     unfold checksE
     rw [HT.out, if_neg ht0])
    clear ht0
    go_wp2_with fail
    go_ret
    exact ⟨by rw [HF.out]; rfl, HE3.out⟩
  ·obtain rfl : i = n := by omega
   have HF : Hid (s = 0) := Lib.hid (by
    rw [← hs.out, checksE_take ms i HI.out, List.drop_of_length_le (by rw [hl.out]; exact Nat.le_refl _)]
    rfl)
   go_wp2_with fail
   go_ret
   exact ⟨by rw [HF.out]; rfl, HE.out⟩
theorem rIntK_stores {K B g : Nat} (vs : List Value) {w : World} {off : Nat} {cs : List Value} {z : Int} (h : (rIntK K).ok B w cs z) (hv : ∀ j, j < vs.length → NoWord w g (off + j)) : (rIntK K).ok B (stores w g off vs) cs z := by
 obtain ⟨b, a, n, c, l, e, h1, h2⟩ := h
 exact ⟨b, a, n, c, l, e, NatS.stores vs h1 hv, h2⟩
theorem Sl.setInt {K B : Nat} {w : World} {g n c : Nat} {xs : List Int} (h : Sl (rIntK K) B w (some ⟨g, 0, none⟩) n c xs) {k : Nat} (hk : k < n) {cs : List Value} {z : Int} (hz : (rIntK K).ok B w cs z) : Sl (rIntK K) B (stores w g (k * 2) cs) (some ⟨g, 0, none⟩) n c (xs.set k z) := by
 have hlen2 : cs.length = 2 := (rIntK K).len hz
 obtain ⟨bk, ok, csk, hgk, hqk, hck⟩ := h.at_ k (by rw [h.len]; exact hk)
 cases hgk
 have hl2 : csk.length = 2 := (rIntK K).len hqk
 have hcel : ∀ j, j < 2 → ∃ v, Cel B w g (k * 2 + j) v ∧ ∀ x : Int, v ≠ .int .u32 x := fun j hj => by
  have := hck j (by omega)
  rw [Nat.zero_add] at this
  refine ⟨_, this, ?_⟩
  obtain ⟨b, a, n, c, l, e, _⟩ := hqk
  subst e
  intro x
  match j, hj with
  | 0, _ => simp
  | 1, _ => simp
 have hnw : ∀ j, j < cs.length → NoWord w g (k * 2 + j) := fun j hj => by
  obtain ⟨v, h1, h2⟩ := hcel j (by omega)
  exact ⟨v, h1.cell, h2⟩
 refine ⟨by rw [List.length_set]; exact h.len, h.cap, h.most, h.nil, fun t ht => ?_⟩
 have ht2 : t < xs.length := by simpa using ht
 by_cases hte : t = k
 ·subst hte
  refine ⟨g, 0, cs, rfl, ?_, fun j hj => ?_⟩
  ·rw [List.getElem_set_self]; exact rIntK_stores cs hz hnw
  ·have := cel_stores_at cs (fun j hj => by obtain ⟨v, h1, _⟩ := hcel j (by omega); exact ⟨v, h1⟩) j hj
   rw [Nat.zero_add]; exact this
 ·obtain ⟨b2, o2, cs2, hg2, hq2, hc2⟩ := h.at_ t ht2
  cases hg2
  have hl3 : cs2.length = 2 := (rIntK K).len hq2
  refine ⟨g, 0, cs2, rfl, ?_, fun j hj => cel_stores cs (hc2 j hj) (.inr ?_)⟩
  ·rw [List.getElem_set_ne (by omega)]; exact rIntK_stores cs hq2 hnw
  ·show 0 + t * 2 + j < k * 2 ∨ k * 2 + cs.length ≤ 0 + t * 2 + j
   omega
theorem make_ints (n : Nat) (hn : n ≤ 1099511627776) (K : Nat) : ∃ cur : Array Value, ∀ w : World, (Instr.makeSlice 30 (.int .i64 (n : Int)) (.int .i64 (n : Int))).run Tryz.prog w = .ok (.slice (some ⟨w.heap.size, 0, none⟩) n n) (w.alloc (.cells cur 25)) ∧ Sl (rIntK K) w.heap.size (w.alloc (.cells cur 25)) (some ⟨w.heap.size, 0, none⟩) n n (List.replicate n 0) := by
 obtain ⟨i0, h1, h2, h3, h4⟩ := info_parts info_int
 refine ⟨madeCells (Value.agg #[.bool false, .slice none 0 0]).cells (n * i0.size), fun w => ⟨?_, ?_⟩⟩
 ·have hmb : (i0.bytes : Int) * (n : Int) ≤ 281474976710656 := by
   rw [h4, ← Int.natCast_mul, Nat.mul_comm]; omega
  have := run_make (P := Tryz.prog) w 30 25 i0 _ under_ints h1 h2 .i64 .i64 (n : Int) (n : Int) (by omega) (by omega) hmb (by omega)
  rw [this]
  simp
 ·have hb := Blk.new w 25 (madeCells (Value.agg #[.bool false, .slice none 0 0]).cells (n * i0.size))
  refine ⟨by simp, Nat.le_refl _, by omega, fun e => (by cases e), fun i hi => ⟨w.heap.size, 0, [.bool false, .slice none 0 0], rfl, ⟨false, none, 0, 0, [], rfl, natS_nil _ _, by simp; rfl, Nat.zero_le _⟩, fun j hj => ⟨Nat.le_refl _, ?_, hb.free _⟩⟩⟩
  have hin : i < n := by simpa using hi
  have hsz : (rIntK K).size = 2 := rfl
  rw [h3] at hb
  refine (h3 ▸ hb).cell ?_
  obtain rfl | rfl : j = 0 ∨ j = 1 := by simp at hj; omega
  ·simp [madeCells, Value.cells, hsz]
   exact ⟨i * 2, by rw [Array.getElem?_eq_getElem (by simp; rw [h3]; omega)]; simp, by rw [show i * 2 % 2 = 0 by omega]; rfl⟩
  ·simp [madeCells, Value.cells, hsz]
   exact ⟨i * 2 + 1, by rw [Array.getElem?_eq_getElem (by simp; rw [h3]; omega)]; simp, by rw [show (i * 2 + 1) % 2 = 1 by omega]; rfl⟩
end Go.Proofs.YtbhenelehhiakaaGreat
