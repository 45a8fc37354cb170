/-
  A matrix as raw data and as numbers at once; the reference's Copy.
-/
import Derived.Test.YtbhenelehhiakaaGreatProd43
import Derived.Test.YtbhenelehhiakaaGreatProd42
import Derived.Test.YtbhenelehhiakaaGreatProd45
import Derived.Test.YtbhenelehhiakaaGreatProd46
import Derived.Test.YtbhenelehhiakaaGreatProd47
set_option linter.unusedVariables false
set_option linter.unusedSimpArgs false
namespace Go.Proofs.YtbhenelehhiakaaGreat
open Go.RowKit

theorem kept_step {B q i : Nat} {w w' : World} {v : Value} (h : Kept B w w') (hq : q < B ∨ w.heap.size ≤ q) : Kept B w (w'.setCell ⟨q, i, none⟩ v) := fun b o u hc => by
  have hb := hc.ge
  have hl : b < w.heap.size := cel_lt hc
  have hc2 := h b o u hc
  have hne : b ≠ q := by omega
  exact ⟨hc2.ge, (World.cell?_setCell_far _ _ _ _ (fun e => hne e.symm)).trans hc2.cell, by rw [World.frozen?_setCell]; exact hc2.free⟩
def ivR (xss : List (List It)) : List (List Int) := xss.map fun xs => xs.map fun x => ival x.1 x.2
/-- raw data behind a reading: another reading with the same cells -/
theorem Sl.behind {α β : Type} {r : Rd α} {s : Rd β} {B B' : Nat} {w : World} {a : Option Addr} {n c : Nat} {xs : List α} (P : α → β → Prop) (h : Sl r B w a n c xs) (hB : B' ≤ B) (hs : r.size = s.size) (hok : ∀ cs x, x ∈ xs → r.ok B w cs x → ∃ y, s.ok B' w cs y ∧ P x y) : ∃ ys : List β, Sl s B' w a n c ys ∧ ys.length = xs.length ∧ ∀ i (h1 : i < xs.length) (h2 : i < ys.length), P xs[i] ys[i] := by
  obtain ⟨ys, hl, hys⟩ := exists_list (α := β) (n := xs.length) (fun i y => ∃ hi : i < xs.length, ∃ b o cs, a = some ⟨b, o, none⟩ ∧ s.ok B' w cs y ∧ P xs[i] y ∧ ∀ j (hj : j < cs.length), Cel B' w b (o + i * s.size + j) cs[j]) (fun i hi => by
    obtain ⟨b, o, cs, ha, hr, hc⟩ := h.at_ i hi
    obtain ⟨y, h1, h2⟩ := hok _ _ (List.getElem_mem _) hr
    refine ⟨y, hi, b, o, cs, ha, h1, h2, fun j hj => ?_⟩
    obtain ⟨g1, g2, g3⟩ := hc j hj
    rw [← hs]
    exact ⟨Nat.le_trans hB g1, g2, g3⟩)
  refine ⟨ys, ⟨by rw [hl]; exact h.len, h.cap, h.most, h.nil, fun i hi => ?_⟩, hl, fun i h1 h2 => ?_⟩
  · obtain ⟨_, b, o, cs, ha, h1, _, h3⟩ := hys i hi
    exact ⟨b, o, cs, ha, h1, h3⟩
  · obtain ⟨_, _, _, _, _, _, h3, _⟩ := hys i h2
    exact h3
/-- as mapw, for the members alone -/
theorem Sl.mapm {α β : Type} {r : Rd α} {s : Rd β} {B B' : Nat} {w : World} {a : Option Addr} {n c : Nat} {xs : List α} (f : α → β) (h : Sl r B w a n c xs) (hB : B' ≤ B) (hs : r.size = s.size) (hok : ∀ cs x, x ∈ xs → r.ok B w cs x → s.ok B' w cs (f x)) : Sl s B' w a n c (xs.map f) :=
  ⟨by rw [List.length_map]; exact h.len, h.cap, h.most, h.nil, fun i hi => by
    obtain ⟨b, o, cs, ha, hr, hc⟩ := h.at_ i (by simpa using hi)
    refine ⟨b, o, cs, ha, by rw [List.getElem_map]; exact hok _ _ (List.getElem_mem _) hr, fun j hj => ?_⟩
    obtain ⟨h1, h2, h3⟩ := hc j hj
    rw [← hs]
    exact ⟨Nat.le_trans hB h1, h2, h3⟩⟩

theorem Sl.rawK {K B : Nat} {w : World} {a : Option Addr} {n c : Nat} {zs : List Int} (h : Sl (rIntK K) B w a n c zs) : ∃ xs : List It, Sl rInt B w a n c xs ∧ (xs.map fun x => ival x.1 x.2) = zs ∧ ∀ x ∈ xs, x.2.length ≤ K := by
  obtain ⟨xs, h1, hl, hp⟩ := h.behind (s := rInt) (fun z x => ival x.1 x.2 = z ∧ x.2.length ≤ K) (Nat.le_refl _) rfl (fun cs z _ ⟨b, a, n, c, l, e, hs, hz, hn⟩ => ⟨(b, l), ⟨[.bool b], [.slice a n c], e, rfl, a, n, c, rfl, hs⟩, hz, by show l.length ≤ K; rw [hs.len]; exact hn⟩)
  refine ⟨xs, h1, List.ext_getElem (by simp [hl]) fun i g1 g2 => ?_, fun x hx => ?_⟩
  · rw [List.getElem_map]
    exact (hp i g2 (by omega)).1
  · obtain ⟨i, hi, rfl⟩ := List.getElem_of_mem hx
    exact (hp i (by omega) hi).2
theorem Sl.rawKs {K B : Nat} {w : World} {a : Option Addr} {n c : Nat} {zss : List (List Int)} (h : Sl (rIntK K).slice B w a n c zss) : ∃ xss : List (List It), Sl rInts B w a n c xss ∧ ivR xss = zss ∧ ∀ xs ∈ xss, ∀ x ∈ xs, x.2.length ≤ K := by
  obtain ⟨xss, h1, hl, hp⟩ := h.behind (s := rInts) (fun zs xs => (xs.map fun x => ival x.1 x.2) = zs ∧ ∀ x ∈ xs, x.2.length ≤ K) (Nat.le_refl _) rfl (fun cs zs _ ⟨a, n, c, e, hs⟩ => by
    obtain ⟨xs, g1, g2, g3⟩ := hs.rawK
    exact ⟨xs, ⟨a, n, c, e, g1⟩, g2, g3⟩)
  refine ⟨xss, h1, (show (xss.map fun xs => xs.map fun x => ival x.1 x.2) = zss from List.ext_getElem (by simp [hl]) fun i g1 g2 => ?_), fun x hx => ?_⟩
  · rw [List.getElem_map]
    exact (hp i g2 (by omega)).1
  · obtain ⟨i, hi, rfl⟩ := List.getElem_of_mem hx
    exact (hp i (by omega) hi).2
theorem Sl.ofRaw {K B : Nat} {w : World} {a : Option Addr} {n c : Nat} {xss : List (List It)} (h : Sl rInts B w a n c xss) (hK : ∀ xs ∈ xss, ∀ x ∈ xs, x.2.length ≤ K) : Sl (rIntK K).slice B w a n c (ivR xss) :=
  h.mapm (s := (rIntK K).slice) (fun xs => xs.map fun x => ival x.1 x.2) (Nat.le_refl _) rfl fun cs xs hxs ⟨a, n, c, e, hs⟩ => ⟨a, n, c, e, hs.mapm (s := rIntK K) (fun x => ival x.1 x.2) (Nat.le_refl _) rfl fun cs x hx ⟨c1, c2, e, h1, a, n, c, h2, h3⟩ => by
    obtain ⟨b, l⟩ := x
    obtain rfl : c1 = [.bool b] := h1
    exact ⟨b, a, n, c, l, by rw [e, h2]; rfl, h3, rfl, by have := hK xs hxs _ hx; rw [h3.len] at this; exact this⟩⟩

/-- a matrix as it lies: its numbers and its raw data -/
def RawB (B : Nat) (K : Nat) (w : World) (b : Bool) (a : Option Addr) (n c : Nat) (a2 : Option Addr) (n2 c2 : Nat) (d : Int) (zss : List (List Int)) (l : Nt) (xss : List (List It)) : Prop :=
  NatS B w a n c l ∧ Sl rInts B w a2 n2 c2 xss ∧ ival b l = d ∧ n ≤ K ∧ ivR xss = zss ∧ ∀ xs ∈ xss, ∀ x ∈ xs, x.2.length ≤ K
abbrev RawM := RawB 0
theorem MatS.raw {K : Nat} {w : World} {b : Bool} {a a2 : Option Addr} {n c n2 c2 : Nat} {d : Int} {zss : List (List Int)} (h : MatS K w b a n c a2 n2 c2 d zss) : ∃ l xss, RawM K w b a n c a2 n2 c2 d zss l xss := by
  obtain ⟨l, h1, h2, h3, h4⟩ := h
  obtain ⟨xss, g1, g2, g3⟩ := h4.rawKs
  exact ⟨l, xss, h1, g1, h2, h3, g2, g3⟩
theorem RawM.mat {K : Nat} {w : World} {b : Bool} {a a2 : Option Addr} {n c n2 c2 : Nat} {d : Int} {zss : List (List Int)} {l : Nt} {xss : List (List It)} (h : RawM K w b a n c a2 n2 c2 d zss l xss) : MatS K w b a n c a2 n2 c2 d zss := by
  obtain ⟨h1, h2, h3, h4, rfl, h6⟩ := h
  exact ⟨l, h1, h3, h4, h2.ofRaw h6⟩
theorem RawB.zero {B K : Nat} {w : World} {b : Bool} {a a2 : Option Addr} {n c n2 c2 : Nat} {d : Int} {zss : List (List Int)} {l : Nt} {xss : List (List It)} (h : RawB B K w b a n c a2 n2 c2 d zss l xss) : RawM K w b a n c a2 n2 c2 d zss l xss :=
  ⟨h.1.mono (Nat.zero_le _) (Kept.refl _ _), h.2.1.mono (Nat.zero_le _) (Kept.refl _ _), h.2.2⟩
theorem RawB.mono {B B' K : Nat} {w w' : World} {b : Bool} {a a2 : Option Addr} {n c n2 c2 : Nat} {d : Int} {zss : List (List Int)} {l : Nt} {xss : List (List It)} (h : RawB B K w b a n c a2 n2 c2 d zss l xss) (hB : B' ≤ B) (hk : Kept B w w') : RawB B' K w' b a n c a2 n2 c2 d zss l xss :=
  ⟨h.1.mono hB hk, h.2.1.mono hB hk, h.2.2⟩
theorem RawB.mat {B K : Nat} {w : World} {b : Bool} {a a2 : Option Addr} {n c n2 c2 : Nat} {d : Int} {zss : List (List Int)} {l : Nt} {xss : List (List It)} (h : RawB B K w b a n c a2 n2 c2 d zss l xss) : MatS K w b a n c a2 n2 c2 d zss := h.zero.mat
theorem RawB.nat {B K : Nat} {w : World} {b : Bool} {a a2 : Option Addr} {n c n2 c2 : Nat} {d : Int} {zss : List (List Int)} {l : Nt} {xss : List (List It)} (h : RawB B K w b a n c a2 n2 c2 d zss l xss) : NatS B w a n c l := h.1
theorem RawB.rows {B K : Nat} {w : World} {b : Bool} {a a2 : Option Addr} {n c n2 c2 : Nat} {d : Int} {zss : List (List Int)} {l : Nt} {xss : List (List It)} (h : RawB B K w b a n c a2 n2 c2 d zss l xss) : Sl rInts B w a2 n2 c2 xss := h.2.1
theorem RawB.ext {B K : Nat} {w w' : World} {b : Bool} {a a2 : Option Addr} {n c n2 c2 : Nat} {d : Int} {zss : List (List Int)} {l : Nt} {xss : List (List It)} (h : RawB B K w b a n c a2 n2 c2 d zss l xss) (hE : Ext w w') : RawB B K w' b a n c a2 n2 c2 d zss l xss :=
  ⟨h.1.ext (Nat.le_refl _) hE, h.2.1.ext (Nat.le_refl _) hE, h.2.2⟩

def RCopyR (K : Nat) (w : World) (b : Bool) (n n2 : Nat) (d : Int) (zss : List (List Int)) (l : Nt) (xss : List (List It)) (e : Ending) (w' : World) : Prop := ∃ a c a2 c2, e = .returned (.agg #[.bool b, .slice a n c, .slice a2 n2 c2]) ∧ RawB w.heap.size K w' b a n c a2 n2 c2 d zss l xss ∧ Ext w w'
theorem copy_raw (K : Nat) (hK : K ≤ 1099511627776) (w : World) (b : Bool) (a a2 : Option Addr) (n c n2 c2 : Nat) (d : Int) (zss : List (List Int)) (l : Nt) (xss : List (List It)) (h : RawM K w b a n c a2 n2 c2 d zss l xss) (hrow : Hid (∀ zs ∈ zss, zs.length ≤ 1099511627776)) (hn2 : n2 ≤ 1099511627776) :
    Calls Tryz.prog 22 #[.agg #[.bool b, .slice a n c, .slice a2 n2 c2]] w (RCopyR K w b n n2 d zss l xss) := by
  obtain ⟨h1, h2, h3, h4, h5, h6⟩ := h
  refine (r11Copy_any w b a a2 n c n2 c2 l xss h1 h2 (Lib.hid fun xs hxs => ⟨?_, fun x hx => Nat.le_trans (h6 xs hxs x hx) hK⟩) (by omega) hn2).mono ?_
  · have := hrow.out (xs.map fun x => ival x.1 x.2) (by rw [← h5]; exact List.mem_map.2 ⟨xs, hxs, rfl⟩)
    rwa [List.length_map] at this
  · rintro e w' ⟨a', c', a2', c2', rfl, g1, g2, hE⟩
    exact ⟨a', c', a2', c2', rfl, ⟨g1, g2, h3, h4, h5, h6⟩, hE⟩

theorem r11Mul_ref (K : Nat) (hK : 8 * K + 16777216 ≤ 549755813888) (w : World) (b : Bool) (a a2 : Option Addr) (n c n2 c2 : Nat) (x : Int × List (List Int)) (h : MatS K w b a n c a2 n2 c2 x.1 x.2) (b' : Bool) (a' a2' : Option Addr) (n' c' n2' c2' : Nat) (y : Int × List (List Int)) (h' : MatS K w b' a' n' c' a2' n2' c2' y.1 y.2) (hs : Hid (mulE x y = 0)) (hn2 : n2 ≤ 1048576) (hn2' : n2' ≤ 1048576) (hm' : colsOf y.2 ≤ 1048576) (qss : List (List Rat)) (hq : Hid (mulQ (fracs x.1 x.2) (fracs y.1 y.2) n2 n2' (colsOf y.2) = qss)) :
    Calls Tryz.prog 41 #[.agg #[.bool b, .slice a n c, .slice a2 n2 c2], .agg #[.bool b', .slice a' n' c', .slice a2' n2' c2']] w (RRef w qss) := by
  have hl' := h'.len2
  have hse := hs.out
  unfold mulE at hse
  by_cases h0 : checksE [x, y] = 0
  · rw [if_neg (by simpa using h0)] at hse
    by_cases hc : colsOf x.2 = n2'
    · have hx := checksE_zero h0 x (by simp)
      have hy := checksE_zero h0 y (by simp)
      exact r11Mul_any K hK w b a a2 n c n2 c2 x.1 x.2 h b' a' a2' n' c' n2' c2' y.1 y.2 h' hx.1 hy.1 (colsOf x.2) (colsOf y.2) (Lib.hid (even_len hx.2)) (Lib.hid (even_len hy.2)) hc (Lib.hid rfl) hn2 hn2' hm' qss hq
    · rw [if_pos (by rw [hl']; exact hc)] at hse
      simp at hse
  · rw [if_pos h0] at hse
    exact absurd hse h0
theorem r11Kron_ref (K : Nat) (hK : 8 * K + 16777216 ≤ 549755813888) (w : World) (b : Bool) (a a2 : Option Addr) (n c n2 c2 : Nat) (x : Int × List (List Int)) (h : MatS K w b a n c a2 n2 c2 x.1 x.2) (b' : Bool) (a' a2' : Option Addr) (n' c' n2' c2' : Nat) (y : Int × List (List Int)) (h' : MatS K w b' a' n' c' a2' n2' c2' y.1 y.2) (hs : Hid (kronE x y = 0)) (hn2 : n2 ≤ 1048576) (hn2' : n2' ≤ 1048576) (hm : colsOf x.2 ≤ 1048576) (hm' : colsOf y.2 ≤ 1048576) (qss : List (List Rat)) (hq : Hid (kronQ (fracs x.1 x.2) (fracs y.1 y.2) n2 (colsOf x.2) n2' (colsOf y.2) = qss)) :
    Calls Tryz.prog 42 #[.agg #[.bool b, .slice a n c, .slice a2 n2 c2], .agg #[.bool b', .slice a' n' c', .slice a2' n2' c2']] w (RRef w qss) := by
  have hl := h.len2
  have hl' := h'.len2
  have hse := hs.out
  unfold kronE at hse
  by_cases h0 : checksE [x, y] = 0
  · rw [if_neg (by simpa using h0)] at hse
    by_cases hc : 1000 < n2 * n2' ∨ 1000 < colsOf x.2 * colsOf y.2
    · rw [if_pos (by rw [hl, hl']; exact hc)] at hse
      simp at hse
    · have hx := checksE_zero h0 x (by simp)
      have hy := checksE_zero h0 y (by simp)
      exact r11Kron_any K hK w b a a2 n c n2 c2 x.1 x.2 h b' a' a2' n' c' n2' c2' y.1 y.2 h' hx.1 hy.1 (colsOf x.2) (colsOf y.2) (Lib.hid (even_len hx.2)) (Lib.hid (even_len hy.2)) (Lib.hid rfl) (Lib.hid rfl) hn2 hn2' hm hm' (by omega) (by omega) qss hq
  · rw [if_pos h0] at hse
    exact absurd hse h0
end Go.Proofs.YtbhenelehhiakaaGreat
/-
  The law QmatProducts: its first region.
-/
namespace Go.Proofs.YtbhenelehhiakaaGreat
open Go.RowKit

theorem colsOf_le {zss : List (List Int)} {k : Nat} (h : ∀ zs ∈ zss, zs.length ≤ k) : colsOf zss ≤ k := by
  cases zss with
  | nil => exact Nat.zero_le _
  | cons z zs => exact h z (List.mem_cons_self ..)

set_option maxRecDepth 100000 in
set_option maxHeartbeats 40000000 in
theorem products_walk (K : Nat) (hK : 8 * K + 16777216 ≤ 549755813888) (w : World) (b : Bool) (a a2 : Option Addr) (n c n2 c2 : Nat) (x : Int × List (List Int)) (h : MatS K w b a n c a2 n2 c2 x.1 x.2) (b' : Bool) (a' a2' : Option Addr) (n' c' n2' c2' : Nat) (y : Int × List (List Int)) (h' : MatS K w b' a' n' c' a2' n2' c2' y.1 y.2) (hrx : Hid (∀ zs ∈ x.2, zs.length ≤ 1048576)) (hry : Hid (∀ zs ∈ y.2, zs.length ≤ 1048576)) (hn2 : n2 ≤ 1048576) (hn2' : n2' ≤ 1048576) :
    Calls Tryz.prog 5 #[.agg #[.bool b, .slice a n c, .slice a2 n2 c2], .agg #[.bool b', .slice a' n' c', .slice a2' n2' c2']] w (Yes w) := by
  obtain ⟨l, xss, hx⟩ := h.raw
  obtain ⟨l', yss, hy⟩ := h'.raw
  have HX := Lib.hid hx
  have HY := Lib.hid hy
  have HRX : Hid (∀ zs ∈ x.2, zs.length ≤ 1099511627776) := Lib.hid (fun zs hz => Nat.le_trans (hrx.out zs hz) (by decide))
  have HRY : Hid (∀ zs ∈ y.2, zs.length ≤ 1099511627776) := Lib.hid (fun zs hz => Nat.le_trans (hry.out zs hz) (by decide))
  have hl := h.len2
  have hl' := h'.len2
  obtain ⟨mx, hmx⟩ : ∃ m, colsOf x.2 = m := ⟨_, rfl⟩
  obtain ⟨my, hmy⟩ : ∃ m, colsOf y.2 = m := ⟨_, rfl⟩
  obtain ⟨s0, hs0⟩ : ∃ s, checksE [x, y] = s := ⟨_, rfl⟩
  obtain ⟨s1, hs1⟩ : ∃ s, mulE x y = s := ⟨_, rfl⟩
  obtain ⟨s2, hs2⟩ : ∃ s, kronE x y = s := ⟨_, rfl⟩
  obtain ⟨qm, hqm⟩ : ∃ q, mulQ (fracs x.1 x.2) (fracs y.1 y.2) n2 n2' (colsOf y.2) = q := ⟨_, rfl⟩
  obtain ⟨qk, hqk⟩ : ∃ q, kronQ (fracs x.1 x.2) (fracs y.1 y.2) n2 (colsOf x.2) n2' (colsOf y.2) = q := ⟨_, rfl⟩
  have HC1 : Hid (s1 = if s0 = 0 ∧ ¬ mx = n2' then 2 else s0) := Lib.hid (by
    rw [← hs1, ← hs0, ← hmx, ← hl']
    unfold mulE
    by_cases g : checksE [x, y] = 0 <;> by_cases g2 : colsOf x.2 = y.2.length <;> simp [g, g2])
  have HC2 : Hid (s2 = if s0 = 0 ∧ (1000 < n2 * n2' ∨ 1000 < mx * my) then 4 else s0) := Lib.hid (by
    rw [← hs2, ← hs0, ← hmx, ← hmy, ← hl', ← hl]
    unfold kronE
    by_cases g : checksE [x, y] = 0 <;> by_cases g2 : 1000 < x.2.length * y.2.length ∨ 1000 < colsOf x.2 * colsOf y.2 <;> simp [g, g2])
  have HCX : Hid (colsOf x.2 ≤ 1048576) := Lib.hid (colsOf_le hrx.out)
  have HCY : Hid (colsOf y.2 ≤ 1048576) := Lib.hid (colsOf_le hry.out)
  have HMX := Lib.hid hmx
  have HMY := Lib.hid hmy
  have HS0 := Lib.hid hs0
  have HS1 := Lib.hid hs1
  have HS2 := Lib.hid hs2
  have HQM := Lib.hid hqm
  have HQK := Lib.hid hqk
  have HXM := Lib.hid h
  have HYM := Lib.hid h'
  clear h h' hx hy hl hl' hmx hmy hs0 hs1 hs2 hqm hqk
  go_enter Tryz.func5, Tryz.ntmps5
  go_upto_region 1 with (fail)
  have p0 := Blk.new w 28 #[.bool b, .slice a n c, .slice a2 n2 c2]
  have p1 := Blk.new (w.alloc (Obj.cells #[.bool b, .slice a n c, .slice a2 n2 c2] 28)) 28 #[.bool b', .slice a' n' c', .slice a2' n2' c2']
  replace p0 := p0.ext ((Below.refl _ _).alloc (Nat.le_refl _) (Obj.cells #[.bool b', .slice a' n' c', .slice a2' n2' c2'] 28))
  have hEW : Ext w ((w.alloc (Obj.cells #[.bool b, .slice a n c, .slice a2 n2 c2] 28)).alloc (Obj.cells #[.bool b', .slice a' n' c', .slice a2' n2' c2'] 28)) := (((Below.refl _ w).alloc (by simp) _).alloc (by simp) _)
  generalize hgW : (w.alloc (Obj.cells #[.bool b, .slice a n c, .slice a2 n2 c2] 28)).alloc (Obj.cells #[.bool b', .slice a' n' c', .slice a2' n2' c2'] 28) = W at *
  clear hgW
  simp only [World.size_alloc] at p1
  have p0_ne_p1 : ¬ w.heap.size = w.heap.size + 1 := by omega
  have p1_ne_p0 : ¬ w.heap.size + 1 = w.heap.size := by omega
  replace p0_0 := p0.cell (i := 0) rfl
  replace p0_1 := p0.cell (i := 1) rfl
  replace p0_2 := p0.cell (i := 2) rfl
  replace p1_0 := p1.cell (i := 0) rfl
  replace p1_1 := p1.cell (i := 1) rfl
  replace p1_2 := p1.cell (i := 2) rfl
  go_cut [5, 6] (fun s5 s6 wx => ∃ q1 q2 a3 c3 a4 c4 a5 c5 a6 c6, s5 = .pointer (some ⟨q1, 0, none⟩) ∧ s6 = .pointer (some ⟨q2, 0, none⟩) ∧ q1 ≠ q2 ∧ Hid (Blk wx q1 28 #[.bool b, .slice a3 n c3, .slice a4 n2 c4]) ∧ Hid (Blk wx q2 28 #[.bool b', .slice a5 n' c5, .slice a6 n2' c6]) ∧ Hid (RawM K wx b a3 n c3 a4 n2 c4 x.1 x.2 l xss) ∧ Hid (RawM K wx b' a5 n' c5 a6 n2' c6 y.1 y.2 l' yss) ∧ Hid (Ext W wx))
  case first =>
    have p0W := p0
    have p1W := p1
    have hlt1 : w.heap.size + 1 < W.heap.size := p1.lt
    have hEd : Ext W W.drew := (Below.refl _ _).drew
    have hsd : W.heap.size ≤ W.drew.heap.size := hEd.size
    replace p0 := p0.ext hEd; replace p0_0 := p0.cell (i := 0) rfl; replace p0_1 := p0.cell (i := 1) rfl; replace p0_2 := p0.cell (i := 2) rfl; replace p1 := p1.ext hEd; replace p1_0 := p1.cell (i := 0) rfl; replace p1_1 := p1.cell (i := 1) rfl; replace p1_2 := p1.cell (i := 2) rfl
    have hE0 := hEd
    clear hEd
    refine wp_region_noPanic ?_
    refine wp_region_held_drew (S := (fun w' => w'.cell? ⟨w.heap.size, 0, none⟩ = some (.bool b) ∧ w'.cell? ⟨w.heap.size, 1, none⟩ = some (.slice a n c) ∧ w'.cell? ⟨w.heap.size, 2, none⟩ = some (.slice a2 n2 c2) ∧ w'.cell? ⟨w.heap.size + 1, 0, none⟩ = some (.bool b') ∧ w'.cell? ⟨w.heap.size + 1, 1, none⟩ = some (.slice a' n' c') ∧ w'.cell? ⟨w.heap.size + 1, 2, none⟩ = some (.slice a2' n2' c2'))) (by kernel_rfl) ⟨p0_0, p0_1, p0_2, p1_0, p1_1, p1_2⟩ (fun hHeld => ?_)
    refine takeD 0 18 (v := ?_) rfl rfl (by kernel_rfl) (by kernel_rfl) (by kernel_rfl) (fun _ _ _ h => h) (Or.inl ⟨by kernel_rfl, ?hy⟩) hHeld ?_
    case hy => (intro w hSw; (try dsimp only at hSw); go_simp; try with_reducible rfl)
    try simp only [List.setIfInBounds_toArray, List.set_cons_zero, List.set_cons_succ]
    refine takeD 2 20 (v := ?_) rfl rfl (by kernel_rfl) (by kernel_rfl) (by kernel_rfl) (fun _ _ _ h => h) (Or.inl ⟨by kernel_rfl, ?hy⟩) hHeld ?_
    case hy => (intro w hSw; (try dsimp only at hSw); go_simp; try with_reducible rfl)
    try simp only [List.setIfInBounds_toArray, List.set_cons_zero, List.set_cons_succ]
    skip
    skip
    refine wpAnyH_ready (rs := [1, 4, 5]) (by kernel_rfl) (by simp) ?_
    refine AllReadyH.cons rfl (fun Kc hKc => ?_) (AllReadyH.cons rfl (fun Kc hKc => ?_) (AllReadyH.cons rfl (fun Kc hKc => ?_) AllReadyH.nil))
    rotate_left 2
    focus
      refine Eq.mpr (if_pos (by kernel_rfl)) ?_
      go_simp
      have hE1 : Ext W (W.alloc (Obj.cells #[.bool false, .slice none 0 0, .slice none 0 0] 28)).drew := ((Below.refl _ _).alloc (Nat.le_refl _) _).drew
      have qb : Blk (W.alloc (Obj.cells #[.bool false, .slice none 0 0, .slice none 0 0] 28)).drew W.heap.size 28 #[.bool false, .slice none 0 0, .slice none 0 0] := Blk.new W 28 #[.bool false, .slice none 0 0, .slice none 0 0]
      replace hE0 := hE1
      have p0 := p0W.ext hE1
      have p1 := p1W.ext hE1
      replace p0_0 := p0.cell (i := 0) rfl
      replace p0_1 := p0.cell (i := 1) rfl
      replace p0_2 := p0.cell (i := 2) rfl
      replace p1_0 := p1.cell (i := 0) rfl
      replace p1_1 := p1.cell (i := 1) rfl
      replace p1_2 := p1.cell (i := 2) rfl
      have hs0 := hE1.size
      clear hE1
      refine hKc.out _ _ ⟨p0_0, p0_1, p0_2, p1_0, p1_1, p1_2⟩ (fun hHeld => ?_)
      clear hKc Kc
      try simp only [Act.put, List.setIfInBounds_toArray, List.set_cons_zero, List.set_cons_succ]
      have ltqB : W.heap.size < (W.alloc (Obj.cells #[.bool false, .slice none 0 0, .slice none 0 0] 28)).drew.heap.size := qb.lt
      generalize (W.alloc (Obj.cells #[.bool false, .slice none 0 0, .slice none 0 0] 28)).drew = w5 at *
      obtain ⟨qB, hqB⟩ : ∃ q, W.heap.size = q := ⟨_, rfl⟩
      have geqB : W.heap.size ≤ qB := Nat.le_of_eq hqB
      have leqB : qB ≤ W.heap.size := Nat.le_of_eq hqB.symm
      rw [hqB] at qb ⊢
      clear hqB
      skip
      replace qb_0 := qb.cell (i := 0) rfl
      replace qb_1 := qb.cell (i := 1) rfl
      replace qb_2 := qb.cell (i := 2) rfl
      replace qb_f0 := qb.free 0
      replace qb_f1 := qb.free 1
      replace qb_f2 := qb.free 2
      replace qb_lt := qb.lt
      skip
      skip
      refine wpAnyH_ready (rs := [1, 4]) (by kernel_rfl) (by simp) ?_
      refine AllReadyH.cons rfl (fun Kc hKc => ?_) (AllReadyH.cons rfl (fun Kc hKc => ?_) AllReadyH.nil)
      rotate_left 1
      focus
        refine Eq.mpr (if_pos (by kernel_rfl)) ?_
        go_simp
        have hE1 : Ext w5 (w5.alloc (Obj.cells #[.bool false, .slice none 0 0, .slice none 0 0] 28)) := (Below.refl _ _).alloc (Nat.le_refl _) _
        have qa : Blk (w5.alloc (Obj.cells #[.bool false, .slice none 0 0, .slice none 0 0] 28)) w5.heap.size 28 #[.bool false, .slice none 0 0, .slice none 0 0] := Blk.new w5 28 #[.bool false, .slice none 0 0, .slice none 0 0]
        replace hE0 := Ext.trans hE0 hE1
        skip
        replace p0 := p0.ext hE1; replace p0_0 := p0.cell (i := 0) rfl; replace p0_1 := p0.cell (i := 1) rfl; replace p0_2 := p0.cell (i := 2) rfl; replace p1 := p1.ext hE1; replace p1_0 := p1.cell (i := 0) rfl; replace p1_1 := p1.cell (i := 1) rfl; replace p1_2 := p1.cell (i := 2) rfl; replace qb := qb.ext hE1; replace qb_0 := qb.cell (i := 0) rfl; replace qb_1 := qb.cell (i := 1) rfl; replace qb_2 := qb.cell (i := 2) rfl; replace qb_f0 := qb.free 0; replace qb_f1 := qb.free 1; replace qb_f2 := qb.free 2; replace qb_lt := qb.lt
        have hs1 := hE1.size
        clear hE1
        refine hKc.out _ _ ⟨p0_0, p0_1, p0_2, p1_0, p1_1, p1_2⟩ (fun hHeld => ?_)
        clear hKc Kc
        try simp only [Act.put, List.setIfInBounds_toArray, List.set_cons_zero, List.set_cons_succ]
        have ltqA : w5.heap.size < (w5.alloc (Obj.cells #[.bool false, .slice none 0 0, .slice none 0 0] 28)).heap.size := qa.lt
        generalize (w5.alloc (Obj.cells #[.bool false, .slice none 0 0, .slice none 0 0] 28)) = w6 at *
        obtain ⟨qA, hqA⟩ : ∃ q, w5.heap.size = q := ⟨_, rfl⟩
        have geqA : w5.heap.size ≤ qA := Nat.le_of_eq hqA
        have leqA : qA ≤ w5.heap.size := Nat.le_of_eq hqA.symm
        rw [hqA] at qa ⊢
        clear hqA
        skip
        replace qa_0 := qa.cell (i := 0) rfl
        replace qa_1 := qa.cell (i := 1) rfl
        replace qa_2 := qa.cell (i := 2) rfl
        replace qa_f0 := qa.free 0
        replace qa_f1 := qa.free 1
        replace qa_f2 := qa.free 2
        replace qa_lt := qa.lt
        skip
        skip
        refine stepD 1 rfl (by kernel_rfl) (fun Kc hKc => ?_)
        refine Eq.mpr (if_pos (by kernel_rfl)) ?_
        go_simp
        refine (copy_raw K (by omega) w6 b a a2 n c n2 c2 x.1 x.2 l xss (HX.out.ext (Ext.trans hEW hE0)) HRX (by omega)).mono ?_
        rintro e w7 ⟨a3, c3, a4, c4, rfl, h5, hE1⟩
        have hs2 := hE1.size
        skip
        skip
        replace p0 := p0.ext hE1; replace p0_0 := p0.cell (i := 0) rfl; replace p0_1 := p0.cell (i := 1) rfl; replace p0_2 := p0.cell (i := 2) rfl; replace p1 := p1.ext hE1; replace p1_0 := p1.cell (i := 0) rfl; replace p1_1 := p1.cell (i := 1) rfl; replace p1_2 := p1.cell (i := 2) rfl; replace qa := qa.ext hE1; replace qa_0 := qa.cell (i := 0) rfl; replace qa_1 := qa.cell (i := 1) rfl; replace qa_2 := qa.cell (i := 2) rfl; replace qa_f0 := qa.free 0; replace qa_f1 := qa.free 1; replace qa_f2 := qa.free 2; replace qa_lt := qa.lt; replace qb := qb.ext hE1; replace qb_0 := qb.cell (i := 0) rfl; replace qb_1 := qb.cell (i := 1) rfl; replace qb_2 := qb.cell (i := 2) rfl; replace qb_f0 := qb.free 0; replace qb_f1 := qb.free 1; replace qb_f2 := qb.free 2; replace qb_lt := qb.lt
        have hk5 := Kept.refl w6.heap.size w7
        replace hE0 := Ext.trans hE0 hE1
        clear hE1
        go_wp2_with fail
        refine hKc.out _ _ ⟨p0_0, p0_1, p0_2, p1_0, p1_1, p1_2⟩ (fun hHeld => ?_)
        clear hKc Kc
        try simp only [Act.put, List.setIfInBounds_toArray, List.set_cons_zero, List.set_cons_succ]
        skip
        skip
        refine stepD 3 rfl (by kernel_rfl) (fun Kc hKc => ?_)
        refine Eq.mpr (if_pos (by kernel_rfl)) ?_
        go_simp
        refine (copy_raw K (by omega) w7 b' a' a2' n' c' n2' c2' y.1 y.2 l' yss (HY.out.ext (Ext.trans hEW hE0)) HRY (by omega)).mono ?_
        rintro e w8 ⟨a5, c5, a6, c6, rfl, h6, hE1⟩
        have hs3 := hE1.size
        skip
        skip
        replace p0 := p0.ext hE1; replace p0_0 := p0.cell (i := 0) rfl; replace p0_1 := p0.cell (i := 1) rfl; replace p0_2 := p0.cell (i := 2) rfl; replace p1 := p1.ext hE1; replace p1_0 := p1.cell (i := 0) rfl; replace p1_1 := p1.cell (i := 1) rfl; replace p1_2 := p1.cell (i := 2) rfl; replace qa := qa.ext hE1; replace qa_0 := qa.cell (i := 0) rfl; replace qa_1 := qa.cell (i := 1) rfl; replace qa_2 := qa.cell (i := 2) rfl; replace qa_f0 := qa.free 0; replace qa_f1 := qa.free 1; replace qa_f2 := qa.free 2; replace qa_lt := qa.lt; replace qb := qb.ext hE1; replace qb_0 := qb.cell (i := 0) rfl; replace qb_1 := qb.cell (i := 1) rfl; replace qb_2 := qb.cell (i := 2) rfl; replace qb_f0 := qb.free 0; replace qb_f1 := qb.free 1; replace qb_f2 := qb.free 2; replace qb_lt := qb.lt
        have hk6 := Kept.refl w7.heap.size w8
        replace hk5 := Kept.trans hk5 (Ext.kept hE1)
        replace hE0 := Ext.trans hE0 hE1
        clear hE1
        go_wp2_with fail
        refine hKc.out _ _ ⟨p0_0, p0_1, p0_2, p1_0, p1_1, p1_2⟩ (fun hHeld => ?_)
        clear hKc Kc
        try simp only [Act.put, List.setIfInBounds_toArray, List.set_cons_zero, List.set_cons_succ]
        obtain ⟨wL, rfl⟩ : ∃ x : World, x = w8 := ⟨_, rfl⟩
      rotate_right 1
      focus
        refine Eq.mpr (if_pos (by kernel_rfl)) ?_
        go_simp
        refine (copy_raw K (by omega) w5 b a a2 n c n2 c2 x.1 x.2 l xss (HX.out.ext (Ext.trans hEW hE0)) HRX (by omega)).mono ?_
        rintro e w6 ⟨a3, c3, a4, c4, rfl, h5, hE1⟩
        have hs1 := hE1.size
        skip
        replace p0 := p0.ext hE1; replace p0_0 := p0.cell (i := 0) rfl; replace p0_1 := p0.cell (i := 1) rfl; replace p0_2 := p0.cell (i := 2) rfl; replace p1 := p1.ext hE1; replace p1_0 := p1.cell (i := 0) rfl; replace p1_1 := p1.cell (i := 1) rfl; replace p1_2 := p1.cell (i := 2) rfl; replace qb := qb.ext hE1; replace qb_0 := qb.cell (i := 0) rfl; replace qb_1 := qb.cell (i := 1) rfl; replace qb_2 := qb.cell (i := 2) rfl; replace qb_f0 := qb.free 0; replace qb_f1 := qb.free 1; replace qb_f2 := qb.free 2; replace qb_lt := qb.lt
        have hk5 := Kept.refl w5.heap.size w6
        replace hE0 := Ext.trans hE0 hE1
        clear hE1
        go_wp2_with fail
        refine hKc.out _ _ ⟨p0_0, p0_1, p0_2, p1_0, p1_1, p1_2⟩ (fun hHeld => ?_)
        clear hKc Kc
        try simp only [Act.put, List.setIfInBounds_toArray, List.set_cons_zero, List.set_cons_succ]
        skip
        skip
        refine wpAnyH_ready (rs := [3, 4]) (by kernel_rfl) (by simp) ?_
        refine AllReadyH.cons rfl (fun Kc hKc => ?_) (AllReadyH.cons rfl (fun Kc hKc => ?_) AllReadyH.nil)
        rotate_left 1
        focus
          refine Eq.mpr (if_pos (by kernel_rfl)) ?_
          go_simp
          have hE1 : Ext w6 (w6.alloc (Obj.cells #[.bool false, .slice none 0 0, .slice none 0 0] 28)) := (Below.refl _ _).alloc (Nat.le_refl _) _
          have qa : Blk (w6.alloc (Obj.cells #[.bool false, .slice none 0 0, .slice none 0 0] 28)) w6.heap.size 28 #[.bool false, .slice none 0 0, .slice none 0 0] := Blk.new w6 28 #[.bool false, .slice none 0 0, .slice none 0 0]
          replace hE0 := Ext.trans hE0 hE1
          skip
          replace p0 := p0.ext hE1; replace p0_0 := p0.cell (i := 0) rfl; replace p0_1 := p0.cell (i := 1) rfl; replace p0_2 := p0.cell (i := 2) rfl; replace p1 := p1.ext hE1; replace p1_0 := p1.cell (i := 0) rfl; replace p1_1 := p1.cell (i := 1) rfl; replace p1_2 := p1.cell (i := 2) rfl; replace qb := qb.ext hE1; replace qb_0 := qb.cell (i := 0) rfl; replace qb_1 := qb.cell (i := 1) rfl; replace qb_2 := qb.cell (i := 2) rfl; replace qb_f0 := qb.free 0; replace qb_f1 := qb.free 1; replace qb_f2 := qb.free 2; replace qb_lt := qb.lt
          replace hk5 := Kept.trans hk5 (Ext.kept hE1)
          have hs2 := hE1.size
          clear hE1
          refine hKc.out _ _ ⟨p0_0, p0_1, p0_2, p1_0, p1_1, p1_2⟩ (fun hHeld => ?_)
          clear hKc Kc
          try simp only [Act.put, List.setIfInBounds_toArray, List.set_cons_zero, List.set_cons_succ]
          have ltqA : w6.heap.size < (w6.alloc (Obj.cells #[.bool false, .slice none 0 0, .slice none 0 0] 28)).heap.size := qa.lt
          generalize (w6.alloc (Obj.cells #[.bool false, .slice none 0 0, .slice none 0 0] 28)) = w7 at *
          obtain ⟨qA, hqA⟩ : ∃ q, w6.heap.size = q := ⟨_, rfl⟩
          have geqA : w6.heap.size ≤ qA := Nat.le_of_eq hqA
          have leqA : qA ≤ w6.heap.size := Nat.le_of_eq hqA.symm
          rw [hqA] at qa ⊢
          clear hqA
          skip
          replace qa_0 := qa.cell (i := 0) rfl
          replace qa_1 := qa.cell (i := 1) rfl
          replace qa_2 := qa.cell (i := 2) rfl
          replace qa_f0 := qa.free 0
          replace qa_f1 := qa.free 1
          replace qa_f2 := qa.free 2
          replace qa_lt := qa.lt
          skip
          skip
          refine stepD 3 rfl (by kernel_rfl) (fun Kc hKc => ?_)
          refine Eq.mpr (if_pos (by kernel_rfl)) ?_
          go_simp
          refine (copy_raw K (by omega) w7 b' a' a2' n' c' n2' c2' y.1 y.2 l' yss (HY.out.ext (Ext.trans hEW hE0)) HRY (by omega)).mono ?_
          rintro e w8 ⟨a5, c5, a6, c6, rfl, h6, hE1⟩
          have hs3 := hE1.size
          skip
          skip
          replace p0 := p0.ext hE1; replace p0_0 := p0.cell (i := 0) rfl; replace p0_1 := p0.cell (i := 1) rfl; replace p0_2 := p0.cell (i := 2) rfl; replace p1 := p1.ext hE1; replace p1_0 := p1.cell (i := 0) rfl; replace p1_1 := p1.cell (i := 1) rfl; replace p1_2 := p1.cell (i := 2) rfl; replace qa := qa.ext hE1; replace qa_0 := qa.cell (i := 0) rfl; replace qa_1 := qa.cell (i := 1) rfl; replace qa_2 := qa.cell (i := 2) rfl; replace qa_f0 := qa.free 0; replace qa_f1 := qa.free 1; replace qa_f2 := qa.free 2; replace qa_lt := qa.lt; replace qb := qb.ext hE1; replace qb_0 := qb.cell (i := 0) rfl; replace qb_1 := qb.cell (i := 1) rfl; replace qb_2 := qb.cell (i := 2) rfl; replace qb_f0 := qb.free 0; replace qb_f1 := qb.free 1; replace qb_f2 := qb.free 2; replace qb_lt := qb.lt
          have hk6 := Kept.refl w7.heap.size w8
          replace hk5 := Kept.trans hk5 (Ext.kept hE1)
          replace hE0 := Ext.trans hE0 hE1
          clear hE1
          go_wp2_with fail
          refine hKc.out _ _ ⟨p0_0, p0_1, p0_2, p1_0, p1_1, p1_2⟩ (fun hHeld => ?_)
          clear hKc Kc
          try simp only [Act.put, List.setIfInBounds_toArray, List.set_cons_zero, List.set_cons_succ]
          obtain ⟨wL, rfl⟩ : ∃ x : World, x = w8 := ⟨_, rfl⟩
        rotate_right 1
        focus
          refine Eq.mpr (if_pos (by kernel_rfl)) ?_
          go_simp
          refine (copy_raw K (by omega) w6 b' a' a2' n' c' n2' c2' y.1 y.2 l' yss (HY.out.ext (Ext.trans hEW hE0)) HRY (by omega)).mono ?_
          rintro e w7 ⟨a5, c5, a6, c6, rfl, h6, hE1⟩
          have hs2 := hE1.size
          skip
          replace p0 := p0.ext hE1; replace p0_0 := p0.cell (i := 0) rfl; replace p0_1 := p0.cell (i := 1) rfl; replace p0_2 := p0.cell (i := 2) rfl; replace p1 := p1.ext hE1; replace p1_0 := p1.cell (i := 0) rfl; replace p1_1 := p1.cell (i := 1) rfl; replace p1_2 := p1.cell (i := 2) rfl; replace qb := qb.ext hE1; replace qb_0 := qb.cell (i := 0) rfl; replace qb_1 := qb.cell (i := 1) rfl; replace qb_2 := qb.cell (i := 2) rfl; replace qb_f0 := qb.free 0; replace qb_f1 := qb.free 1; replace qb_f2 := qb.free 2; replace qb_lt := qb.lt
          have hk6 := Kept.refl w6.heap.size w7
          replace hk5 := Kept.trans hk5 (Ext.kept hE1)
          replace hE0 := Ext.trans hE0 hE1
          clear hE1
          go_wp2_with fail
          refine hKc.out _ _ ⟨p0_0, p0_1, p0_2, p1_0, p1_1, p1_2⟩ (fun hHeld => ?_)
          clear hKc Kc
          try simp only [Act.put, List.setIfInBounds_toArray, List.set_cons_zero, List.set_cons_succ]
          skip
          skip
          refine stepD 4 rfl (by kernel_rfl) (fun Kc hKc => ?_)
          refine Eq.mpr (if_pos (by kernel_rfl)) ?_
          go_simp
          have hE1 : Ext w7 (w7.alloc (Obj.cells #[.bool false, .slice none 0 0, .slice none 0 0] 28)) := (Below.refl _ _).alloc (Nat.le_refl _) _
          have qa : Blk (w7.alloc (Obj.cells #[.bool false, .slice none 0 0, .slice none 0 0] 28)) w7.heap.size 28 #[.bool false, .slice none 0 0, .slice none 0 0] := Blk.new w7 28 #[.bool false, .slice none 0 0, .slice none 0 0]
          replace hE0 := Ext.trans hE0 hE1
          skip
          replace p0 := p0.ext hE1; replace p0_0 := p0.cell (i := 0) rfl; replace p0_1 := p0.cell (i := 1) rfl; replace p0_2 := p0.cell (i := 2) rfl; replace p1 := p1.ext hE1; replace p1_0 := p1.cell (i := 0) rfl; replace p1_1 := p1.cell (i := 1) rfl; replace p1_2 := p1.cell (i := 2) rfl; replace qb := qb.ext hE1; replace qb_0 := qb.cell (i := 0) rfl; replace qb_1 := qb.cell (i := 1) rfl; replace qb_2 := qb.cell (i := 2) rfl; replace qb_f0 := qb.free 0; replace qb_f1 := qb.free 1; replace qb_f2 := qb.free 2; replace qb_lt := qb.lt
          replace hk5 := Kept.trans hk5 (Ext.kept hE1)
          replace hk6 := Kept.trans hk6 (Ext.kept hE1)
          have hs3 := hE1.size
          clear hE1
          refine hKc.out _ _ ⟨p0_0, p0_1, p0_2, p1_0, p1_1, p1_2⟩ (fun hHeld => ?_)
          clear hKc Kc
          try simp only [Act.put, List.setIfInBounds_toArray, List.set_cons_zero, List.set_cons_succ]
          have ltqA : w7.heap.size < (w7.alloc (Obj.cells #[.bool false, .slice none 0 0, .slice none 0 0] 28)).heap.size := qa.lt
          generalize (w7.alloc (Obj.cells #[.bool false, .slice none 0 0, .slice none 0 0] 28)) = w8 at *
          obtain ⟨qA, hqA⟩ : ∃ q, w7.heap.size = q := ⟨_, rfl⟩
          have geqA : w7.heap.size ≤ qA := Nat.le_of_eq hqA
          have leqA : qA ≤ w7.heap.size := Nat.le_of_eq hqA.symm
          rw [hqA] at qa ⊢
          clear hqA
          skip
          replace qa_0 := qa.cell (i := 0) rfl
          replace qa_1 := qa.cell (i := 1) rfl
          replace qa_2 := qa.cell (i := 2) rfl
          replace qa_f0 := qa.free 0
          replace qa_f1 := qa.free 1
          replace qa_f2 := qa.free 2
          replace qa_lt := qa.lt
          obtain ⟨wL, rfl⟩ : ∃ x : World, x = w8 := ⟨_, rfl⟩
    rotate_right 2
    rotate_left 1
    focus
      refine Eq.mpr (if_pos (by kernel_rfl)) ?_
      go_simp
      have hE1 : Ext W (W.alloc (Obj.cells #[.bool false, .slice none 0 0, .slice none 0 0] 28)).drew := ((Below.refl _ _).alloc (Nat.le_refl _) _).drew
      have qa : Blk (W.alloc (Obj.cells #[.bool false, .slice none 0 0, .slice none 0 0] 28)).drew W.heap.size 28 #[.bool false, .slice none 0 0, .slice none 0 0] := Blk.new W 28 #[.bool false, .slice none 0 0, .slice none 0 0]
      replace hE0 := hE1
      have p0 := p0W.ext hE1
      have p1 := p1W.ext hE1
      replace p0_0 := p0.cell (i := 0) rfl
      replace p0_1 := p0.cell (i := 1) rfl
      replace p0_2 := p0.cell (i := 2) rfl
      replace p1_0 := p1.cell (i := 0) rfl
      replace p1_1 := p1.cell (i := 1) rfl
      replace p1_2 := p1.cell (i := 2) rfl
      have hs0 := hE1.size
      clear hE1
      refine hKc.out _ _ ⟨p0_0, p0_1, p0_2, p1_0, p1_1, p1_2⟩ (fun hHeld => ?_)
      clear hKc Kc
      try simp only [Act.put, List.setIfInBounds_toArray, List.set_cons_zero, List.set_cons_succ]
      have ltqA : W.heap.size < (W.alloc (Obj.cells #[.bool false, .slice none 0 0, .slice none 0 0] 28)).drew.heap.size := qa.lt
      generalize (W.alloc (Obj.cells #[.bool false, .slice none 0 0, .slice none 0 0] 28)).drew = w5 at *
      obtain ⟨qA, hqA⟩ : ∃ q, W.heap.size = q := ⟨_, rfl⟩
      have geqA : W.heap.size ≤ qA := Nat.le_of_eq hqA
      have leqA : qA ≤ W.heap.size := Nat.le_of_eq hqA.symm
      rw [hqA] at qa ⊢
      clear hqA
      skip
      replace qa_0 := qa.cell (i := 0) rfl
      replace qa_1 := qa.cell (i := 1) rfl
      replace qa_2 := qa.cell (i := 2) rfl
      replace qa_f0 := qa.free 0
      replace qa_f1 := qa.free 1
      replace qa_f2 := qa.free 2
      replace qa_lt := qa.lt
      skip
      skip
      refine wpAnyH_ready (rs := [1, 5]) (by kernel_rfl) (by simp) ?_
      refine AllReadyH.cons rfl (fun Kc hKc => ?_) (AllReadyH.cons rfl (fun Kc hKc => ?_) AllReadyH.nil)
      rotate_left 1
      focus
        refine Eq.mpr (if_pos (by kernel_rfl)) ?_
        go_simp
        have hE1 : Ext w5 (w5.alloc (Obj.cells #[.bool false, .slice none 0 0, .slice none 0 0] 28)) := (Below.refl _ _).alloc (Nat.le_refl _) _
        have qb : Blk (w5.alloc (Obj.cells #[.bool false, .slice none 0 0, .slice none 0 0] 28)) w5.heap.size 28 #[.bool false, .slice none 0 0, .slice none 0 0] := Blk.new w5 28 #[.bool false, .slice none 0 0, .slice none 0 0]
        replace hE0 := Ext.trans hE0 hE1
        skip
        replace p0 := p0.ext hE1; replace p0_0 := p0.cell (i := 0) rfl; replace p0_1 := p0.cell (i := 1) rfl; replace p0_2 := p0.cell (i := 2) rfl; replace p1 := p1.ext hE1; replace p1_0 := p1.cell (i := 0) rfl; replace p1_1 := p1.cell (i := 1) rfl; replace p1_2 := p1.cell (i := 2) rfl; replace qa := qa.ext hE1; replace qa_0 := qa.cell (i := 0) rfl; replace qa_1 := qa.cell (i := 1) rfl; replace qa_2 := qa.cell (i := 2) rfl; replace qa_f0 := qa.free 0; replace qa_f1 := qa.free 1; replace qa_f2 := qa.free 2; replace qa_lt := qa.lt
        have hs1 := hE1.size
        clear hE1
        refine hKc.out _ _ ⟨p0_0, p0_1, p0_2, p1_0, p1_1, p1_2⟩ (fun hHeld => ?_)
        clear hKc Kc
        try simp only [Act.put, List.setIfInBounds_toArray, List.set_cons_zero, List.set_cons_succ]
        have ltqB : w5.heap.size < (w5.alloc (Obj.cells #[.bool false, .slice none 0 0, .slice none 0 0] 28)).heap.size := qb.lt
        generalize (w5.alloc (Obj.cells #[.bool false, .slice none 0 0, .slice none 0 0] 28)) = w6 at *
        obtain ⟨qB, hqB⟩ : ∃ q, w5.heap.size = q := ⟨_, rfl⟩
        have geqB : w5.heap.size ≤ qB := Nat.le_of_eq hqB
        have leqB : qB ≤ w5.heap.size := Nat.le_of_eq hqB.symm
        rw [hqB] at qb ⊢
        clear hqB
        skip
        replace qb_0 := qb.cell (i := 0) rfl
        replace qb_1 := qb.cell (i := 1) rfl
        replace qb_2 := qb.cell (i := 2) rfl
        replace qb_f0 := qb.free 0
        replace qb_f1 := qb.free 1
        replace qb_f2 := qb.free 2
        replace qb_lt := qb.lt
        skip
        skip
        refine stepD 1 rfl (by kernel_rfl) (fun Kc hKc => ?_)
        refine Eq.mpr (if_pos (by kernel_rfl)) ?_
        go_simp
        refine (copy_raw K (by omega) w6 b a a2 n c n2 c2 x.1 x.2 l xss (HX.out.ext (Ext.trans hEW hE0)) HRX (by omega)).mono ?_
        rintro e w7 ⟨a3, c3, a4, c4, rfl, h5, hE1⟩
        have hs2 := hE1.size
        skip
        skip
        replace p0 := p0.ext hE1; replace p0_0 := p0.cell (i := 0) rfl; replace p0_1 := p0.cell (i := 1) rfl; replace p0_2 := p0.cell (i := 2) rfl; replace p1 := p1.ext hE1; replace p1_0 := p1.cell (i := 0) rfl; replace p1_1 := p1.cell (i := 1) rfl; replace p1_2 := p1.cell (i := 2) rfl; replace qa := qa.ext hE1; replace qa_0 := qa.cell (i := 0) rfl; replace qa_1 := qa.cell (i := 1) rfl; replace qa_2 := qa.cell (i := 2) rfl; replace qa_f0 := qa.free 0; replace qa_f1 := qa.free 1; replace qa_f2 := qa.free 2; replace qa_lt := qa.lt; replace qb := qb.ext hE1; replace qb_0 := qb.cell (i := 0) rfl; replace qb_1 := qb.cell (i := 1) rfl; replace qb_2 := qb.cell (i := 2) rfl; replace qb_f0 := qb.free 0; replace qb_f1 := qb.free 1; replace qb_f2 := qb.free 2; replace qb_lt := qb.lt
        have hk5 := Kept.refl w6.heap.size w7
        replace hE0 := Ext.trans hE0 hE1
        clear hE1
        go_wp2_with fail
        refine hKc.out _ _ ⟨p0_0, p0_1, p0_2, p1_0, p1_1, p1_2⟩ (fun hHeld => ?_)
        clear hKc Kc
        try simp only [Act.put, List.setIfInBounds_toArray, List.set_cons_zero, List.set_cons_succ]
        skip
        skip
        refine stepD 3 rfl (by kernel_rfl) (fun Kc hKc => ?_)
        refine Eq.mpr (if_pos (by kernel_rfl)) ?_
        go_simp
        refine (copy_raw K (by omega) w7 b' a' a2' n' c' n2' c2' y.1 y.2 l' yss (HY.out.ext (Ext.trans hEW hE0)) HRY (by omega)).mono ?_
        rintro e w8 ⟨a5, c5, a6, c6, rfl, h6, hE1⟩
        have hs3 := hE1.size
        skip
        skip
        replace p0 := p0.ext hE1; replace p0_0 := p0.cell (i := 0) rfl; replace p0_1 := p0.cell (i := 1) rfl; replace p0_2 := p0.cell (i := 2) rfl; replace p1 := p1.ext hE1; replace p1_0 := p1.cell (i := 0) rfl; replace p1_1 := p1.cell (i := 1) rfl; replace p1_2 := p1.cell (i := 2) rfl; replace qa := qa.ext hE1; replace qa_0 := qa.cell (i := 0) rfl; replace qa_1 := qa.cell (i := 1) rfl; replace qa_2 := qa.cell (i := 2) rfl; replace qa_f0 := qa.free 0; replace qa_f1 := qa.free 1; replace qa_f2 := qa.free 2; replace qa_lt := qa.lt; replace qb := qb.ext hE1; replace qb_0 := qb.cell (i := 0) rfl; replace qb_1 := qb.cell (i := 1) rfl; replace qb_2 := qb.cell (i := 2) rfl; replace qb_f0 := qb.free 0; replace qb_f1 := qb.free 1; replace qb_f2 := qb.free 2; replace qb_lt := qb.lt
        have hk6 := Kept.refl w7.heap.size w8
        replace hk5 := Kept.trans hk5 (Ext.kept hE1)
        replace hE0 := Ext.trans hE0 hE1
        clear hE1
        go_wp2_with fail
        refine hKc.out _ _ ⟨p0_0, p0_1, p0_2, p1_0, p1_1, p1_2⟩ (fun hHeld => ?_)
        clear hKc Kc
        try simp only [Act.put, List.setIfInBounds_toArray, List.set_cons_zero, List.set_cons_succ]
        obtain ⟨wL, rfl⟩ : ∃ x : World, x = w8 := ⟨_, rfl⟩
      rotate_right 1
      focus
        refine Eq.mpr (if_pos (by kernel_rfl)) ?_
        go_simp
        refine (copy_raw K (by omega) w5 b a a2 n c n2 c2 x.1 x.2 l xss (HX.out.ext (Ext.trans hEW hE0)) HRX (by omega)).mono ?_
        rintro e w6 ⟨a3, c3, a4, c4, rfl, h5, hE1⟩
        have hs1 := hE1.size
        skip
        replace p0 := p0.ext hE1; replace p0_0 := p0.cell (i := 0) rfl; replace p0_1 := p0.cell (i := 1) rfl; replace p0_2 := p0.cell (i := 2) rfl; replace p1 := p1.ext hE1; replace p1_0 := p1.cell (i := 0) rfl; replace p1_1 := p1.cell (i := 1) rfl; replace p1_2 := p1.cell (i := 2) rfl; replace qa := qa.ext hE1; replace qa_0 := qa.cell (i := 0) rfl; replace qa_1 := qa.cell (i := 1) rfl; replace qa_2 := qa.cell (i := 2) rfl; replace qa_f0 := qa.free 0; replace qa_f1 := qa.free 1; replace qa_f2 := qa.free 2; replace qa_lt := qa.lt
        have hk5 := Kept.refl w5.heap.size w6
        replace hE0 := Ext.trans hE0 hE1
        clear hE1
        go_wp2_with fail
        refine hKc.out _ _ ⟨p0_0, p0_1, p0_2, p1_0, p1_1, p1_2⟩ (fun hHeld => ?_)
        clear hKc Kc
        try simp only [Act.put, List.setIfInBounds_toArray, List.set_cons_zero, List.set_cons_succ]
        skip
        skip
        refine wpAnyH_ready (rs := [3, 5]) (by kernel_rfl) (by simp) ?_
        refine AllReadyH.cons rfl (fun Kc hKc => ?_) (AllReadyH.cons rfl (fun Kc hKc => ?_) AllReadyH.nil)
        rotate_left 1
        focus
          refine Eq.mpr (if_pos (by kernel_rfl)) ?_
          go_simp
          have hE1 : Ext w6 (w6.alloc (Obj.cells #[.bool false, .slice none 0 0, .slice none 0 0] 28)) := (Below.refl _ _).alloc (Nat.le_refl _) _
          have qb : Blk (w6.alloc (Obj.cells #[.bool false, .slice none 0 0, .slice none 0 0] 28)) w6.heap.size 28 #[.bool false, .slice none 0 0, .slice none 0 0] := Blk.new w6 28 #[.bool false, .slice none 0 0, .slice none 0 0]
          replace hE0 := Ext.trans hE0 hE1
          skip
          replace p0 := p0.ext hE1; replace p0_0 := p0.cell (i := 0) rfl; replace p0_1 := p0.cell (i := 1) rfl; replace p0_2 := p0.cell (i := 2) rfl; replace p1 := p1.ext hE1; replace p1_0 := p1.cell (i := 0) rfl; replace p1_1 := p1.cell (i := 1) rfl; replace p1_2 := p1.cell (i := 2) rfl; replace qa := qa.ext hE1; replace qa_0 := qa.cell (i := 0) rfl; replace qa_1 := qa.cell (i := 1) rfl; replace qa_2 := qa.cell (i := 2) rfl; replace qa_f0 := qa.free 0; replace qa_f1 := qa.free 1; replace qa_f2 := qa.free 2; replace qa_lt := qa.lt
          replace hk5 := Kept.trans hk5 (Ext.kept hE1)
          have hs2 := hE1.size
          clear hE1
          refine hKc.out _ _ ⟨p0_0, p0_1, p0_2, p1_0, p1_1, p1_2⟩ (fun hHeld => ?_)
          clear hKc Kc
          try simp only [Act.put, List.setIfInBounds_toArray, List.set_cons_zero, List.set_cons_succ]
          have ltqB : w6.heap.size < (w6.alloc (Obj.cells #[.bool false, .slice none 0 0, .slice none 0 0] 28)).heap.size := qb.lt
          generalize (w6.alloc (Obj.cells #[.bool false, .slice none 0 0, .slice none 0 0] 28)) = w7 at *
          obtain ⟨qB, hqB⟩ : ∃ q, w6.heap.size = q := ⟨_, rfl⟩
          have geqB : w6.heap.size ≤ qB := Nat.le_of_eq hqB
          have leqB : qB ≤ w6.heap.size := Nat.le_of_eq hqB.symm
          rw [hqB] at qb ⊢
          clear hqB
          skip
          replace qb_0 := qb.cell (i := 0) rfl
          replace qb_1 := qb.cell (i := 1) rfl
          replace qb_2 := qb.cell (i := 2) rfl
          replace qb_f0 := qb.free 0
          replace qb_f1 := qb.free 1
          replace qb_f2 := qb.free 2
          replace qb_lt := qb.lt
          skip
          skip
          refine stepD 3 rfl (by kernel_rfl) (fun Kc hKc => ?_)
          refine Eq.mpr (if_pos (by kernel_rfl)) ?_
          go_simp
          refine (copy_raw K (by omega) w7 b' a' a2' n' c' n2' c2' y.1 y.2 l' yss (HY.out.ext (Ext.trans hEW hE0)) HRY (by omega)).mono ?_
          rintro e w8 ⟨a5, c5, a6, c6, rfl, h6, hE1⟩
          have hs3 := hE1.size
          skip
          skip
          replace p0 := p0.ext hE1; replace p0_0 := p0.cell (i := 0) rfl; replace p0_1 := p0.cell (i := 1) rfl; replace p0_2 := p0.cell (i := 2) rfl; replace p1 := p1.ext hE1; replace p1_0 := p1.cell (i := 0) rfl; replace p1_1 := p1.cell (i := 1) rfl; replace p1_2 := p1.cell (i := 2) rfl; replace qa := qa.ext hE1; replace qa_0 := qa.cell (i := 0) rfl; replace qa_1 := qa.cell (i := 1) rfl; replace qa_2 := qa.cell (i := 2) rfl; replace qa_f0 := qa.free 0; replace qa_f1 := qa.free 1; replace qa_f2 := qa.free 2; replace qa_lt := qa.lt; replace qb := qb.ext hE1; replace qb_0 := qb.cell (i := 0) rfl; replace qb_1 := qb.cell (i := 1) rfl; replace qb_2 := qb.cell (i := 2) rfl; replace qb_f0 := qb.free 0; replace qb_f1 := qb.free 1; replace qb_f2 := qb.free 2; replace qb_lt := qb.lt
          have hk6 := Kept.refl w7.heap.size w8
          replace hk5 := Kept.trans hk5 (Ext.kept hE1)
          replace hE0 := Ext.trans hE0 hE1
          clear hE1
          go_wp2_with fail
          refine hKc.out _ _ ⟨p0_0, p0_1, p0_2, p1_0, p1_1, p1_2⟩ (fun hHeld => ?_)
          clear hKc Kc
          try simp only [Act.put, List.setIfInBounds_toArray, List.set_cons_zero, List.set_cons_succ]
          obtain ⟨wL, rfl⟩ : ∃ x : World, x = w8 := ⟨_, rfl⟩
        rotate_right 1
        focus
          refine Eq.mpr (if_pos (by kernel_rfl)) ?_
          go_simp
          refine (copy_raw K (by omega) w6 b' a' a2' n' c' n2' c2' y.1 y.2 l' yss (HY.out.ext (Ext.trans hEW hE0)) HRY (by omega)).mono ?_
          rintro e w7 ⟨a5, c5, a6, c6, rfl, h6, hE1⟩
          have hs2 := hE1.size
          skip
          replace p0 := p0.ext hE1; replace p0_0 := p0.cell (i := 0) rfl; replace p0_1 := p0.cell (i := 1) rfl; replace p0_2 := p0.cell (i := 2) rfl; replace p1 := p1.ext hE1; replace p1_0 := p1.cell (i := 0) rfl; replace p1_1 := p1.cell (i := 1) rfl; replace p1_2 := p1.cell (i := 2) rfl; replace qa := qa.ext hE1; replace qa_0 := qa.cell (i := 0) rfl; replace qa_1 := qa.cell (i := 1) rfl; replace qa_2 := qa.cell (i := 2) rfl; replace qa_f0 := qa.free 0; replace qa_f1 := qa.free 1; replace qa_f2 := qa.free 2; replace qa_lt := qa.lt
          have hk6 := Kept.refl w6.heap.size w7
          replace hk5 := Kept.trans hk5 (Ext.kept hE1)
          replace hE0 := Ext.trans hE0 hE1
          clear hE1
          go_wp2_with fail
          refine hKc.out _ _ ⟨p0_0, p0_1, p0_2, p1_0, p1_1, p1_2⟩ (fun hHeld => ?_)
          clear hKc Kc
          try simp only [Act.put, List.setIfInBounds_toArray, List.set_cons_zero, List.set_cons_succ]
          skip
          skip
          refine stepD 5 rfl (by kernel_rfl) (fun Kc hKc => ?_)
          refine Eq.mpr (if_pos (by kernel_rfl)) ?_
          go_simp
          have hE1 : Ext w7 (w7.alloc (Obj.cells #[.bool false, .slice none 0 0, .slice none 0 0] 28)) := (Below.refl _ _).alloc (Nat.le_refl _) _
          have qb : Blk (w7.alloc (Obj.cells #[.bool false, .slice none 0 0, .slice none 0 0] 28)) w7.heap.size 28 #[.bool false, .slice none 0 0, .slice none 0 0] := Blk.new w7 28 #[.bool false, .slice none 0 0, .slice none 0 0]
          replace hE0 := Ext.trans hE0 hE1
          skip
          replace p0 := p0.ext hE1; replace p0_0 := p0.cell (i := 0) rfl; replace p0_1 := p0.cell (i := 1) rfl; replace p0_2 := p0.cell (i := 2) rfl; replace p1 := p1.ext hE1; replace p1_0 := p1.cell (i := 0) rfl; replace p1_1 := p1.cell (i := 1) rfl; replace p1_2 := p1.cell (i := 2) rfl; replace qa := qa.ext hE1; replace qa_0 := qa.cell (i := 0) rfl; replace qa_1 := qa.cell (i := 1) rfl; replace qa_2 := qa.cell (i := 2) rfl; replace qa_f0 := qa.free 0; replace qa_f1 := qa.free 1; replace qa_f2 := qa.free 2; replace qa_lt := qa.lt
          replace hk5 := Kept.trans hk5 (Ext.kept hE1)
          replace hk6 := Kept.trans hk6 (Ext.kept hE1)
          have hs3 := hE1.size
          clear hE1
          refine hKc.out _ _ ⟨p0_0, p0_1, p0_2, p1_0, p1_1, p1_2⟩ (fun hHeld => ?_)
          clear hKc Kc
          try simp only [Act.put, List.setIfInBounds_toArray, List.set_cons_zero, List.set_cons_succ]
          have ltqB : w7.heap.size < (w7.alloc (Obj.cells #[.bool false, .slice none 0 0, .slice none 0 0] 28)).heap.size := qb.lt
          generalize (w7.alloc (Obj.cells #[.bool false, .slice none 0 0, .slice none 0 0] 28)) = w8 at *
          obtain ⟨qB, hqB⟩ : ∃ q, w7.heap.size = q := ⟨_, rfl⟩
          have geqB : w7.heap.size ≤ qB := Nat.le_of_eq hqB
          have leqB : qB ≤ w7.heap.size := Nat.le_of_eq hqB.symm
          rw [hqB] at qb ⊢
          clear hqB
          skip
          replace qb_0 := qb.cell (i := 0) rfl
          replace qb_1 := qb.cell (i := 1) rfl
          replace qb_2 := qb.cell (i := 2) rfl
          replace qb_f0 := qb.free 0
          replace qb_f1 := qb.free 1
          replace qb_f2 := qb.free 2
          replace qb_lt := qb.lt
          obtain ⟨wL, rfl⟩ : ∃ x : World, x = w8 := ⟨_, rfl⟩
    rotate_right 1
    focus
      refine Eq.mpr (if_pos (by kernel_rfl)) ?_
      go_simp
      refine (copy_raw K (by omega) W.drew b a a2 n c n2 c2 x.1 x.2 l xss (HX.out.ext (Ext.trans hEW hE0)) HRX (by omega)).mono ?_
      rintro e w5 ⟨a3, c3, a4, c4, rfl, h5, hE1⟩
      have hs0 := hE1.size
      replace p0 := p0.ext hE1; replace p0_0 := p0.cell (i := 0) rfl; replace p0_1 := p0.cell (i := 1) rfl; replace p0_2 := p0.cell (i := 2) rfl; replace p1 := p1.ext hE1; replace p1_0 := p1.cell (i := 0) rfl; replace p1_1 := p1.cell (i := 1) rfl; replace p1_2 := p1.cell (i := 2) rfl
      have hk5 := Kept.refl W.drew.heap.size w5
      replace hE0 := Ext.trans hE0 hE1
      clear hE1
      go_wp2_with fail
      refine hKc.out _ _ ⟨p0_0, p0_1, p0_2, p1_0, p1_1, p1_2⟩ (fun hHeld => ?_)
      clear hKc Kc
      try simp only [Act.put, List.setIfInBounds_toArray, List.set_cons_zero, List.set_cons_succ]
      skip
      skip
      refine wpAnyH_ready (rs := [3, 4, 5]) (by kernel_rfl) (by simp) ?_
      refine AllReadyH.cons rfl (fun Kc hKc => ?_) (AllReadyH.cons rfl (fun Kc hKc => ?_) (AllReadyH.cons rfl (fun Kc hKc => ?_) AllReadyH.nil))
      rotate_left 2
      focus
        refine Eq.mpr (if_pos (by kernel_rfl)) ?_
        go_simp
        have hE1 : Ext w5 (w5.alloc (Obj.cells #[.bool false, .slice none 0 0, .slice none 0 0] 28)) := (Below.refl _ _).alloc (Nat.le_refl _) _
        have qb : Blk (w5.alloc (Obj.cells #[.bool false, .slice none 0 0, .slice none 0 0] 28)) w5.heap.size 28 #[.bool false, .slice none 0 0, .slice none 0 0] := Blk.new w5 28 #[.bool false, .slice none 0 0, .slice none 0 0]
        replace hE0 := Ext.trans hE0 hE1
        replace p0 := p0.ext hE1; replace p0_0 := p0.cell (i := 0) rfl; replace p0_1 := p0.cell (i := 1) rfl; replace p0_2 := p0.cell (i := 2) rfl; replace p1 := p1.ext hE1; replace p1_0 := p1.cell (i := 0) rfl; replace p1_1 := p1.cell (i := 1) rfl; replace p1_2 := p1.cell (i := 2) rfl
        replace hk5 := Kept.trans hk5 (Ext.kept hE1)
        have hs1 := hE1.size
        clear hE1
        refine hKc.out _ _ ⟨p0_0, p0_1, p0_2, p1_0, p1_1, p1_2⟩ (fun hHeld => ?_)
        clear hKc Kc
        try simp only [Act.put, List.setIfInBounds_toArray, List.set_cons_zero, List.set_cons_succ]
        have ltqB : w5.heap.size < (w5.alloc (Obj.cells #[.bool false, .slice none 0 0, .slice none 0 0] 28)).heap.size := qb.lt
        generalize (w5.alloc (Obj.cells #[.bool false, .slice none 0 0, .slice none 0 0] 28)) = w6 at *
        obtain ⟨qB, hqB⟩ : ∃ q, w5.heap.size = q := ⟨_, rfl⟩
        have geqB : w5.heap.size ≤ qB := Nat.le_of_eq hqB
        have leqB : qB ≤ w5.heap.size := Nat.le_of_eq hqB.symm
        rw [hqB] at qb ⊢
        clear hqB
        skip
        replace qb_0 := qb.cell (i := 0) rfl
        replace qb_1 := qb.cell (i := 1) rfl
        replace qb_2 := qb.cell (i := 2) rfl
        replace qb_f0 := qb.free 0
        replace qb_f1 := qb.free 1
        replace qb_f2 := qb.free 2
        replace qb_lt := qb.lt
        skip
        skip
        refine wpAnyH_ready (rs := [3, 4]) (by kernel_rfl) (by simp) ?_
        refine AllReadyH.cons rfl (fun Kc hKc => ?_) (AllReadyH.cons rfl (fun Kc hKc => ?_) AllReadyH.nil)
        rotate_left 1
        focus
          refine Eq.mpr (if_pos (by kernel_rfl)) ?_
          go_simp
          have hE1 : Ext w6 (w6.alloc (Obj.cells #[.bool false, .slice none 0 0, .slice none 0 0] 28)) := (Below.refl _ _).alloc (Nat.le_refl _) _
          have qa : Blk (w6.alloc (Obj.cells #[.bool false, .slice none 0 0, .slice none 0 0] 28)) w6.heap.size 28 #[.bool false, .slice none 0 0, .slice none 0 0] := Blk.new w6 28 #[.bool false, .slice none 0 0, .slice none 0 0]
          replace hE0 := Ext.trans hE0 hE1
          skip
          replace p0 := p0.ext hE1; replace p0_0 := p0.cell (i := 0) rfl; replace p0_1 := p0.cell (i := 1) rfl; replace p0_2 := p0.cell (i := 2) rfl; replace p1 := p1.ext hE1; replace p1_0 := p1.cell (i := 0) rfl; replace p1_1 := p1.cell (i := 1) rfl; replace p1_2 := p1.cell (i := 2) rfl; replace qb := qb.ext hE1; replace qb_0 := qb.cell (i := 0) rfl; replace qb_1 := qb.cell (i := 1) rfl; replace qb_2 := qb.cell (i := 2) rfl; replace qb_f0 := qb.free 0; replace qb_f1 := qb.free 1; replace qb_f2 := qb.free 2; replace qb_lt := qb.lt
          replace hk5 := Kept.trans hk5 (Ext.kept hE1)
          have hs2 := hE1.size
          clear hE1
          refine hKc.out _ _ ⟨p0_0, p0_1, p0_2, p1_0, p1_1, p1_2⟩ (fun hHeld => ?_)
          clear hKc Kc
          try simp only [Act.put, List.setIfInBounds_toArray, List.set_cons_zero, List.set_cons_succ]
          have ltqA : w6.heap.size < (w6.alloc (Obj.cells #[.bool false, .slice none 0 0, .slice none 0 0] 28)).heap.size := qa.lt
          generalize (w6.alloc (Obj.cells #[.bool false, .slice none 0 0, .slice none 0 0] 28)) = w7 at *
          obtain ⟨qA, hqA⟩ : ∃ q, w6.heap.size = q := ⟨_, rfl⟩
          have geqA : w6.heap.size ≤ qA := Nat.le_of_eq hqA
          have leqA : qA ≤ w6.heap.size := Nat.le_of_eq hqA.symm
          rw [hqA] at qa ⊢
          clear hqA
          skip
          replace qa_0 := qa.cell (i := 0) rfl
          replace qa_1 := qa.cell (i := 1) rfl
          replace qa_2 := qa.cell (i := 2) rfl
          replace qa_f0 := qa.free 0
          replace qa_f1 := qa.free 1
          replace qa_f2 := qa.free 2
          replace qa_lt := qa.lt
          skip
          skip
          refine stepD 3 rfl (by kernel_rfl) (fun Kc hKc => ?_)
          refine Eq.mpr (if_pos (by kernel_rfl)) ?_
          go_simp
          refine (copy_raw K (by omega) w7 b' a' a2' n' c' n2' c2' y.1 y.2 l' yss (HY.out.ext (Ext.trans hEW hE0)) HRY (by omega)).mono ?_
          rintro e w8 ⟨a5, c5, a6, c6, rfl, h6, hE1⟩
          have hs3 := hE1.size
          skip
          skip
          replace p0 := p0.ext hE1; replace p0_0 := p0.cell (i := 0) rfl; replace p0_1 := p0.cell (i := 1) rfl; replace p0_2 := p0.cell (i := 2) rfl; replace p1 := p1.ext hE1; replace p1_0 := p1.cell (i := 0) rfl; replace p1_1 := p1.cell (i := 1) rfl; replace p1_2 := p1.cell (i := 2) rfl; replace qa := qa.ext hE1; replace qa_0 := qa.cell (i := 0) rfl; replace qa_1 := qa.cell (i := 1) rfl; replace qa_2 := qa.cell (i := 2) rfl; replace qa_f0 := qa.free 0; replace qa_f1 := qa.free 1; replace qa_f2 := qa.free 2; replace qa_lt := qa.lt; replace qb := qb.ext hE1; replace qb_0 := qb.cell (i := 0) rfl; replace qb_1 := qb.cell (i := 1) rfl; replace qb_2 := qb.cell (i := 2) rfl; replace qb_f0 := qb.free 0; replace qb_f1 := qb.free 1; replace qb_f2 := qb.free 2; replace qb_lt := qb.lt
          have hk6 := Kept.refl w7.heap.size w8
          replace hk5 := Kept.trans hk5 (Ext.kept hE1)
          replace hE0 := Ext.trans hE0 hE1
          clear hE1
          go_wp2_with fail
          refine hKc.out _ _ ⟨p0_0, p0_1, p0_2, p1_0, p1_1, p1_2⟩ (fun hHeld => ?_)
          clear hKc Kc
          try simp only [Act.put, List.setIfInBounds_toArray, List.set_cons_zero, List.set_cons_succ]
          obtain ⟨wL, rfl⟩ : ∃ x : World, x = w8 := ⟨_, rfl⟩
        rotate_right 1
        focus
          refine Eq.mpr (if_pos (by kernel_rfl)) ?_
          go_simp
          refine (copy_raw K (by omega) w6 b' a' a2' n' c' n2' c2' y.1 y.2 l' yss (HY.out.ext (Ext.trans hEW hE0)) HRY (by omega)).mono ?_
          rintro e w7 ⟨a5, c5, a6, c6, rfl, h6, hE1⟩
          have hs2 := hE1.size
          skip
          replace p0 := p0.ext hE1; replace p0_0 := p0.cell (i := 0) rfl; replace p0_1 := p0.cell (i := 1) rfl; replace p0_2 := p0.cell (i := 2) rfl; replace p1 := p1.ext hE1; replace p1_0 := p1.cell (i := 0) rfl; replace p1_1 := p1.cell (i := 1) rfl; replace p1_2 := p1.cell (i := 2) rfl; replace qb := qb.ext hE1; replace qb_0 := qb.cell (i := 0) rfl; replace qb_1 := qb.cell (i := 1) rfl; replace qb_2 := qb.cell (i := 2) rfl; replace qb_f0 := qb.free 0; replace qb_f1 := qb.free 1; replace qb_f2 := qb.free 2; replace qb_lt := qb.lt
          have hk6 := Kept.refl w6.heap.size w7
          replace hk5 := Kept.trans hk5 (Ext.kept hE1)
          replace hE0 := Ext.trans hE0 hE1
          clear hE1
          go_wp2_with fail
          refine hKc.out _ _ ⟨p0_0, p0_1, p0_2, p1_0, p1_1, p1_2⟩ (fun hHeld => ?_)
          clear hKc Kc
          try simp only [Act.put, List.setIfInBounds_toArray, List.set_cons_zero, List.set_cons_succ]
          skip
          skip
          refine stepD 4 rfl (by kernel_rfl) (fun Kc hKc => ?_)
          refine Eq.mpr (if_pos (by kernel_rfl)) ?_
          go_simp
          have hE1 : Ext w7 (w7.alloc (Obj.cells #[.bool false, .slice none 0 0, .slice none 0 0] 28)) := (Below.refl _ _).alloc (Nat.le_refl _) _
          have qa : Blk (w7.alloc (Obj.cells #[.bool false, .slice none 0 0, .slice none 0 0] 28)) w7.heap.size 28 #[.bool false, .slice none 0 0, .slice none 0 0] := Blk.new w7 28 #[.bool false, .slice none 0 0, .slice none 0 0]
          replace hE0 := Ext.trans hE0 hE1
          skip
          replace p0 := p0.ext hE1; replace p0_0 := p0.cell (i := 0) rfl; replace p0_1 := p0.cell (i := 1) rfl; replace p0_2 := p0.cell (i := 2) rfl; replace p1 := p1.ext hE1; replace p1_0 := p1.cell (i := 0) rfl; replace p1_1 := p1.cell (i := 1) rfl; replace p1_2 := p1.cell (i := 2) rfl; replace qb := qb.ext hE1; replace qb_0 := qb.cell (i := 0) rfl; replace qb_1 := qb.cell (i := 1) rfl; replace qb_2 := qb.cell (i := 2) rfl; replace qb_f0 := qb.free 0; replace qb_f1 := qb.free 1; replace qb_f2 := qb.free 2; replace qb_lt := qb.lt
          replace hk5 := Kept.trans hk5 (Ext.kept hE1)
          replace hk6 := Kept.trans hk6 (Ext.kept hE1)
          have hs3 := hE1.size
          clear hE1
          refine hKc.out _ _ ⟨p0_0, p0_1, p0_2, p1_0, p1_1, p1_2⟩ (fun hHeld => ?_)
          clear hKc Kc
          try simp only [Act.put, List.setIfInBounds_toArray, List.set_cons_zero, List.set_cons_succ]
          have ltqA : w7.heap.size < (w7.alloc (Obj.cells #[.bool false, .slice none 0 0, .slice none 0 0] 28)).heap.size := qa.lt
          generalize (w7.alloc (Obj.cells #[.bool false, .slice none 0 0, .slice none 0 0] 28)) = w8 at *
          obtain ⟨qA, hqA⟩ : ∃ q, w7.heap.size = q := ⟨_, rfl⟩
          have geqA : w7.heap.size ≤ qA := Nat.le_of_eq hqA
          have leqA : qA ≤ w7.heap.size := Nat.le_of_eq hqA.symm
          rw [hqA] at qa ⊢
          clear hqA
          skip
          replace qa_0 := qa.cell (i := 0) rfl
          replace qa_1 := qa.cell (i := 1) rfl
          replace qa_2 := qa.cell (i := 2) rfl
          replace qa_f0 := qa.free 0
          replace qa_f1 := qa.free 1
          replace qa_f2 := qa.free 2
          replace qa_lt := qa.lt
          obtain ⟨wL, rfl⟩ : ∃ x : World, x = w8 := ⟨_, rfl⟩
      rotate_right 2
      rotate_left 1
      focus
        refine Eq.mpr (if_pos (by kernel_rfl)) ?_
        go_simp
        have hE1 : Ext w5 (w5.alloc (Obj.cells #[.bool false, .slice none 0 0, .slice none 0 0] 28)) := (Below.refl _ _).alloc (Nat.le_refl _) _
        have qa : Blk (w5.alloc (Obj.cells #[.bool false, .slice none 0 0, .slice none 0 0] 28)) w5.heap.size 28 #[.bool false, .slice none 0 0, .slice none 0 0] := Blk.new w5 28 #[.bool false, .slice none 0 0, .slice none 0 0]
        replace hE0 := Ext.trans hE0 hE1
        replace p0 := p0.ext hE1; replace p0_0 := p0.cell (i := 0) rfl; replace p0_1 := p0.cell (i := 1) rfl; replace p0_2 := p0.cell (i := 2) rfl; replace p1 := p1.ext hE1; replace p1_0 := p1.cell (i := 0) rfl; replace p1_1 := p1.cell (i := 1) rfl; replace p1_2 := p1.cell (i := 2) rfl
        replace hk5 := Kept.trans hk5 (Ext.kept hE1)
        have hs1 := hE1.size
        clear hE1
        refine hKc.out _ _ ⟨p0_0, p0_1, p0_2, p1_0, p1_1, p1_2⟩ (fun hHeld => ?_)
        clear hKc Kc
        try simp only [Act.put, List.setIfInBounds_toArray, List.set_cons_zero, List.set_cons_succ]
        have ltqA : w5.heap.size < (w5.alloc (Obj.cells #[.bool false, .slice none 0 0, .slice none 0 0] 28)).heap.size := qa.lt
        generalize (w5.alloc (Obj.cells #[.bool false, .slice none 0 0, .slice none 0 0] 28)) = w6 at *
        obtain ⟨qA, hqA⟩ : ∃ q, w5.heap.size = q := ⟨_, rfl⟩
        have geqA : w5.heap.size ≤ qA := Nat.le_of_eq hqA
        have leqA : qA ≤ w5.heap.size := Nat.le_of_eq hqA.symm
        rw [hqA] at qa ⊢
        clear hqA
        skip
        replace qa_0 := qa.cell (i := 0) rfl
        replace qa_1 := qa.cell (i := 1) rfl
        replace qa_2 := qa.cell (i := 2) rfl
        replace qa_f0 := qa.free 0
        replace qa_f1 := qa.free 1
        replace qa_f2 := qa.free 2
        replace qa_lt := qa.lt
        skip
        skip
        refine wpAnyH_ready (rs := [3, 5]) (by kernel_rfl) (by simp) ?_
        refine AllReadyH.cons rfl (fun Kc hKc => ?_) (AllReadyH.cons rfl (fun Kc hKc => ?_) AllReadyH.nil)
        rotate_left 1
        focus
          refine Eq.mpr (if_pos (by kernel_rfl)) ?_
          go_simp
          have hE1 : Ext w6 (w6.alloc (Obj.cells #[.bool false, .slice none 0 0, .slice none 0 0] 28)) := (Below.refl _ _).alloc (Nat.le_refl _) _
          have qb : Blk (w6.alloc (Obj.cells #[.bool false, .slice none 0 0, .slice none 0 0] 28)) w6.heap.size 28 #[.bool false, .slice none 0 0, .slice none 0 0] := Blk.new w6 28 #[.bool false, .slice none 0 0, .slice none 0 0]
          replace hE0 := Ext.trans hE0 hE1
          skip
          replace p0 := p0.ext hE1; replace p0_0 := p0.cell (i := 0) rfl; replace p0_1 := p0.cell (i := 1) rfl; replace p0_2 := p0.cell (i := 2) rfl; replace p1 := p1.ext hE1; replace p1_0 := p1.cell (i := 0) rfl; replace p1_1 := p1.cell (i := 1) rfl; replace p1_2 := p1.cell (i := 2) rfl; replace qa := qa.ext hE1; replace qa_0 := qa.cell (i := 0) rfl; replace qa_1 := qa.cell (i := 1) rfl; replace qa_2 := qa.cell (i := 2) rfl; replace qa_f0 := qa.free 0; replace qa_f1 := qa.free 1; replace qa_f2 := qa.free 2; replace qa_lt := qa.lt
          replace hk5 := Kept.trans hk5 (Ext.kept hE1)
          have hs2 := hE1.size
          clear hE1
          refine hKc.out _ _ ⟨p0_0, p0_1, p0_2, p1_0, p1_1, p1_2⟩ (fun hHeld => ?_)
          clear hKc Kc
          try simp only [Act.put, List.setIfInBounds_toArray, List.set_cons_zero, List.set_cons_succ]
          have ltqB : w6.heap.size < (w6.alloc (Obj.cells #[.bool false, .slice none 0 0, .slice none 0 0] 28)).heap.size := qb.lt
          generalize (w6.alloc (Obj.cells #[.bool false, .slice none 0 0, .slice none 0 0] 28)) = w7 at *
          obtain ⟨qB, hqB⟩ : ∃ q, w6.heap.size = q := ⟨_, rfl⟩
          have geqB : w6.heap.size ≤ qB := Nat.le_of_eq hqB
          have leqB : qB ≤ w6.heap.size := Nat.le_of_eq hqB.symm
          rw [hqB] at qb ⊢
          clear hqB
          skip
          replace qb_0 := qb.cell (i := 0) rfl
          replace qb_1 := qb.cell (i := 1) rfl
          replace qb_2 := qb.cell (i := 2) rfl
          replace qb_f0 := qb.free 0
          replace qb_f1 := qb.free 1
          replace qb_f2 := qb.free 2
          replace qb_lt := qb.lt
          skip
          skip
          refine stepD 3 rfl (by kernel_rfl) (fun Kc hKc => ?_)
          refine Eq.mpr (if_pos (by kernel_rfl)) ?_
          go_simp
          refine (copy_raw K (by omega) w7 b' a' a2' n' c' n2' c2' y.1 y.2 l' yss (HY.out.ext (Ext.trans hEW hE0)) HRY (by omega)).mono ?_
          rintro e w8 ⟨a5, c5, a6, c6, rfl, h6, hE1⟩
          have hs3 := hE1.size
          skip
          skip
          replace p0 := p0.ext hE1; replace p0_0 := p0.cell (i := 0) rfl; replace p0_1 := p0.cell (i := 1) rfl; replace p0_2 := p0.cell (i := 2) rfl; replace p1 := p1.ext hE1; replace p1_0 := p1.cell (i := 0) rfl; replace p1_1 := p1.cell (i := 1) rfl; replace p1_2 := p1.cell (i := 2) rfl; replace qa := qa.ext hE1; replace qa_0 := qa.cell (i := 0) rfl; replace qa_1 := qa.cell (i := 1) rfl; replace qa_2 := qa.cell (i := 2) rfl; replace qa_f0 := qa.free 0; replace qa_f1 := qa.free 1; replace qa_f2 := qa.free 2; replace qa_lt := qa.lt; replace qb := qb.ext hE1; replace qb_0 := qb.cell (i := 0) rfl; replace qb_1 := qb.cell (i := 1) rfl; replace qb_2 := qb.cell (i := 2) rfl; replace qb_f0 := qb.free 0; replace qb_f1 := qb.free 1; replace qb_f2 := qb.free 2; replace qb_lt := qb.lt
          have hk6 := Kept.refl w7.heap.size w8
          replace hk5 := Kept.trans hk5 (Ext.kept hE1)
          replace hE0 := Ext.trans hE0 hE1
          clear hE1
          go_wp2_with fail
          refine hKc.out _ _ ⟨p0_0, p0_1, p0_2, p1_0, p1_1, p1_2⟩ (fun hHeld => ?_)
          clear hKc Kc
          try simp only [Act.put, List.setIfInBounds_toArray, List.set_cons_zero, List.set_cons_succ]
          obtain ⟨wL, rfl⟩ : ∃ x : World, x = w8 := ⟨_, rfl⟩
        rotate_right 1
        focus
          refine Eq.mpr (if_pos (by kernel_rfl)) ?_
          go_simp
          refine (copy_raw K (by omega) w6 b' a' a2' n' c' n2' c2' y.1 y.2 l' yss (HY.out.ext (Ext.trans hEW hE0)) HRY (by omega)).mono ?_
          rintro e w7 ⟨a5, c5, a6, c6, rfl, h6, hE1⟩
          have hs2 := hE1.size
          skip
          replace p0 := p0.ext hE1; replace p0_0 := p0.cell (i := 0) rfl; replace p0_1 := p0.cell (i := 1) rfl; replace p0_2 := p0.cell (i := 2) rfl; replace p1 := p1.ext hE1; replace p1_0 := p1.cell (i := 0) rfl; replace p1_1 := p1.cell (i := 1) rfl; replace p1_2 := p1.cell (i := 2) rfl; replace qa := qa.ext hE1; replace qa_0 := qa.cell (i := 0) rfl; replace qa_1 := qa.cell (i := 1) rfl; replace qa_2 := qa.cell (i := 2) rfl; replace qa_f0 := qa.free 0; replace qa_f1 := qa.free 1; replace qa_f2 := qa.free 2; replace qa_lt := qa.lt
          have hk6 := Kept.refl w6.heap.size w7
          replace hk5 := Kept.trans hk5 (Ext.kept hE1)
          replace hE0 := Ext.trans hE0 hE1
          clear hE1
          go_wp2_with fail
          refine hKc.out _ _ ⟨p0_0, p0_1, p0_2, p1_0, p1_1, p1_2⟩ (fun hHeld => ?_)
          clear hKc Kc
          try simp only [Act.put, List.setIfInBounds_toArray, List.set_cons_zero, List.set_cons_succ]
          skip
          skip
          refine stepD 5 rfl (by kernel_rfl) (fun Kc hKc => ?_)
          refine Eq.mpr (if_pos (by kernel_rfl)) ?_
          go_simp
          have hE1 : Ext w7 (w7.alloc (Obj.cells #[.bool false, .slice none 0 0, .slice none 0 0] 28)) := (Below.refl _ _).alloc (Nat.le_refl _) _
          have qb : Blk (w7.alloc (Obj.cells #[.bool false, .slice none 0 0, .slice none 0 0] 28)) w7.heap.size 28 #[.bool false, .slice none 0 0, .slice none 0 0] := Blk.new w7 28 #[.bool false, .slice none 0 0, .slice none 0 0]
          replace hE0 := Ext.trans hE0 hE1
          skip
          replace p0 := p0.ext hE1; replace p0_0 := p0.cell (i := 0) rfl; replace p0_1 := p0.cell (i := 1) rfl; replace p0_2 := p0.cell (i := 2) rfl; replace p1 := p1.ext hE1; replace p1_0 := p1.cell (i := 0) rfl; replace p1_1 := p1.cell (i := 1) rfl; replace p1_2 := p1.cell (i := 2) rfl; replace qa := qa.ext hE1; replace qa_0 := qa.cell (i := 0) rfl; replace qa_1 := qa.cell (i := 1) rfl; replace qa_2 := qa.cell (i := 2) rfl; replace qa_f0 := qa.free 0; replace qa_f1 := qa.free 1; replace qa_f2 := qa.free 2; replace qa_lt := qa.lt
          replace hk5 := Kept.trans hk5 (Ext.kept hE1)
          replace hk6 := Kept.trans hk6 (Ext.kept hE1)
          have hs3 := hE1.size
          clear hE1
          refine hKc.out _ _ ⟨p0_0, p0_1, p0_2, p1_0, p1_1, p1_2⟩ (fun hHeld => ?_)
          clear hKc Kc
          try simp only [Act.put, List.setIfInBounds_toArray, List.set_cons_zero, List.set_cons_succ]
          have ltqB : w7.heap.size < (w7.alloc (Obj.cells #[.bool false, .slice none 0 0, .slice none 0 0] 28)).heap.size := qb.lt
          generalize (w7.alloc (Obj.cells #[.bool false, .slice none 0 0, .slice none 0 0] 28)) = w8 at *
          obtain ⟨qB, hqB⟩ : ∃ q, w7.heap.size = q := ⟨_, rfl⟩
          have geqB : w7.heap.size ≤ qB := Nat.le_of_eq hqB
          have leqB : qB ≤ w7.heap.size := Nat.le_of_eq hqB.symm
          rw [hqB] at qb ⊢
          clear hqB
          skip
          replace qb_0 := qb.cell (i := 0) rfl
          replace qb_1 := qb.cell (i := 1) rfl
          replace qb_2 := qb.cell (i := 2) rfl
          replace qb_f0 := qb.free 0
          replace qb_f1 := qb.free 1
          replace qb_f2 := qb.free 2
          replace qb_lt := qb.lt
          obtain ⟨wL, rfl⟩ : ∃ x : World, x = w8 := ⟨_, rfl⟩
      rotate_right 1
      focus
        refine Eq.mpr (if_pos (by kernel_rfl)) ?_
        go_simp
        refine (copy_raw K (by omega) w5 b' a' a2' n' c' n2' c2' y.1 y.2 l' yss (HY.out.ext (Ext.trans hEW hE0)) HRY (by omega)).mono ?_
        rintro e w6 ⟨a5, c5, a6, c6, rfl, h6, hE1⟩
        have hs1 := hE1.size
        replace p0 := p0.ext hE1; replace p0_0 := p0.cell (i := 0) rfl; replace p0_1 := p0.cell (i := 1) rfl; replace p0_2 := p0.cell (i := 2) rfl; replace p1 := p1.ext hE1; replace p1_0 := p1.cell (i := 0) rfl; replace p1_1 := p1.cell (i := 1) rfl; replace p1_2 := p1.cell (i := 2) rfl
        have hk6 := Kept.refl w5.heap.size w6
        replace hk5 := Kept.trans hk5 (Ext.kept hE1)
        replace hE0 := Ext.trans hE0 hE1
        clear hE1
        go_wp2_with fail
        refine hKc.out _ _ ⟨p0_0, p0_1, p0_2, p1_0, p1_1, p1_2⟩ (fun hHeld => ?_)
        clear hKc Kc
        try simp only [Act.put, List.setIfInBounds_toArray, List.set_cons_zero, List.set_cons_succ]
        skip
        skip
        refine wpAnyH_ready (rs := [4, 5]) (by kernel_rfl) (by simp) ?_
        refine AllReadyH.cons rfl (fun Kc hKc => ?_) (AllReadyH.cons rfl (fun Kc hKc => ?_) AllReadyH.nil)
        rotate_left 1
        focus
          refine Eq.mpr (if_pos (by kernel_rfl)) ?_
          go_simp
          have hE1 : Ext w6 (w6.alloc (Obj.cells #[.bool false, .slice none 0 0, .slice none 0 0] 28)) := (Below.refl _ _).alloc (Nat.le_refl _) _
          have qb : Blk (w6.alloc (Obj.cells #[.bool false, .slice none 0 0, .slice none 0 0] 28)) w6.heap.size 28 #[.bool false, .slice none 0 0, .slice none 0 0] := Blk.new w6 28 #[.bool false, .slice none 0 0, .slice none 0 0]
          replace hE0 := Ext.trans hE0 hE1
          replace p0 := p0.ext hE1; replace p0_0 := p0.cell (i := 0) rfl; replace p0_1 := p0.cell (i := 1) rfl; replace p0_2 := p0.cell (i := 2) rfl; replace p1 := p1.ext hE1; replace p1_0 := p1.cell (i := 0) rfl; replace p1_1 := p1.cell (i := 1) rfl; replace p1_2 := p1.cell (i := 2) rfl
          replace hk5 := Kept.trans hk5 (Ext.kept hE1)
          replace hk6 := Kept.trans hk6 (Ext.kept hE1)
          have hs2 := hE1.size
          clear hE1
          refine hKc.out _ _ ⟨p0_0, p0_1, p0_2, p1_0, p1_1, p1_2⟩ (fun hHeld => ?_)
          clear hKc Kc
          try simp only [Act.put, List.setIfInBounds_toArray, List.set_cons_zero, List.set_cons_succ]
          have ltqB : w6.heap.size < (w6.alloc (Obj.cells #[.bool false, .slice none 0 0, .slice none 0 0] 28)).heap.size := qb.lt
          generalize (w6.alloc (Obj.cells #[.bool false, .slice none 0 0, .slice none 0 0] 28)) = w7 at *
          obtain ⟨qB, hqB⟩ : ∃ q, w6.heap.size = q := ⟨_, rfl⟩
          have geqB : w6.heap.size ≤ qB := Nat.le_of_eq hqB
          have leqB : qB ≤ w6.heap.size := Nat.le_of_eq hqB.symm
          rw [hqB] at qb ⊢
          clear hqB
          skip
          replace qb_0 := qb.cell (i := 0) rfl
          replace qb_1 := qb.cell (i := 1) rfl
          replace qb_2 := qb.cell (i := 2) rfl
          replace qb_f0 := qb.free 0
          replace qb_f1 := qb.free 1
          replace qb_f2 := qb.free 2
          replace qb_lt := qb.lt
          skip
          skip
          refine stepD 4 rfl (by kernel_rfl) (fun Kc hKc => ?_)
          refine Eq.mpr (if_pos (by kernel_rfl)) ?_
          go_simp
          have hE1 : Ext w7 (w7.alloc (Obj.cells #[.bool false, .slice none 0 0, .slice none 0 0] 28)) := (Below.refl _ _).alloc (Nat.le_refl _) _
          have qa : Blk (w7.alloc (Obj.cells #[.bool false, .slice none 0 0, .slice none 0 0] 28)) w7.heap.size 28 #[.bool false, .slice none 0 0, .slice none 0 0] := Blk.new w7 28 #[.bool false, .slice none 0 0, .slice none 0 0]
          replace hE0 := Ext.trans hE0 hE1
          skip
          replace p0 := p0.ext hE1; replace p0_0 := p0.cell (i := 0) rfl; replace p0_1 := p0.cell (i := 1) rfl; replace p0_2 := p0.cell (i := 2) rfl; replace p1 := p1.ext hE1; replace p1_0 := p1.cell (i := 0) rfl; replace p1_1 := p1.cell (i := 1) rfl; replace p1_2 := p1.cell (i := 2) rfl; replace qb := qb.ext hE1; replace qb_0 := qb.cell (i := 0) rfl; replace qb_1 := qb.cell (i := 1) rfl; replace qb_2 := qb.cell (i := 2) rfl; replace qb_f0 := qb.free 0; replace qb_f1 := qb.free 1; replace qb_f2 := qb.free 2; replace qb_lt := qb.lt
          replace hk5 := Kept.trans hk5 (Ext.kept hE1)
          replace hk6 := Kept.trans hk6 (Ext.kept hE1)
          have hs3 := hE1.size
          clear hE1
          refine hKc.out _ _ ⟨p0_0, p0_1, p0_2, p1_0, p1_1, p1_2⟩ (fun hHeld => ?_)
          clear hKc Kc
          try simp only [Act.put, List.setIfInBounds_toArray, List.set_cons_zero, List.set_cons_succ]
          have ltqA : w7.heap.size < (w7.alloc (Obj.cells #[.bool false, .slice none 0 0, .slice none 0 0] 28)).heap.size := qa.lt
          generalize (w7.alloc (Obj.cells #[.bool false, .slice none 0 0, .slice none 0 0] 28)) = w8 at *
          obtain ⟨qA, hqA⟩ : ∃ q, w7.heap.size = q := ⟨_, rfl⟩
          have geqA : w7.heap.size ≤ qA := Nat.le_of_eq hqA
          have leqA : qA ≤ w7.heap.size := Nat.le_of_eq hqA.symm
          rw [hqA] at qa ⊢
          clear hqA
          skip
          replace qa_0 := qa.cell (i := 0) rfl
          replace qa_1 := qa.cell (i := 1) rfl
          replace qa_2 := qa.cell (i := 2) rfl
          replace qa_f0 := qa.free 0
          replace qa_f1 := qa.free 1
          replace qa_f2 := qa.free 2
          replace qa_lt := qa.lt
          obtain ⟨wL, rfl⟩ : ∃ x : World, x = w8 := ⟨_, rfl⟩
        rotate_right 1
        focus
          refine Eq.mpr (if_pos (by kernel_rfl)) ?_
          go_simp
          have hE1 : Ext w6 (w6.alloc (Obj.cells #[.bool false, .slice none 0 0, .slice none 0 0] 28)) := (Below.refl _ _).alloc (Nat.le_refl _) _
          have qa : Blk (w6.alloc (Obj.cells #[.bool false, .slice none 0 0, .slice none 0 0] 28)) w6.heap.size 28 #[.bool false, .slice none 0 0, .slice none 0 0] := Blk.new w6 28 #[.bool false, .slice none 0 0, .slice none 0 0]
          replace hE0 := Ext.trans hE0 hE1
          replace p0 := p0.ext hE1; replace p0_0 := p0.cell (i := 0) rfl; replace p0_1 := p0.cell (i := 1) rfl; replace p0_2 := p0.cell (i := 2) rfl; replace p1 := p1.ext hE1; replace p1_0 := p1.cell (i := 0) rfl; replace p1_1 := p1.cell (i := 1) rfl; replace p1_2 := p1.cell (i := 2) rfl
          replace hk5 := Kept.trans hk5 (Ext.kept hE1)
          replace hk6 := Kept.trans hk6 (Ext.kept hE1)
          have hs2 := hE1.size
          clear hE1
          refine hKc.out _ _ ⟨p0_0, p0_1, p0_2, p1_0, p1_1, p1_2⟩ (fun hHeld => ?_)
          clear hKc Kc
          try simp only [Act.put, List.setIfInBounds_toArray, List.set_cons_zero, List.set_cons_succ]
          have ltqA : w6.heap.size < (w6.alloc (Obj.cells #[.bool false, .slice none 0 0, .slice none 0 0] 28)).heap.size := qa.lt
          generalize (w6.alloc (Obj.cells #[.bool false, .slice none 0 0, .slice none 0 0] 28)) = w7 at *
          obtain ⟨qA, hqA⟩ : ∃ q, w6.heap.size = q := ⟨_, rfl⟩
          have geqA : w6.heap.size ≤ qA := Nat.le_of_eq hqA
          have leqA : qA ≤ w6.heap.size := Nat.le_of_eq hqA.symm
          rw [hqA] at qa ⊢
          clear hqA
          skip
          replace qa_0 := qa.cell (i := 0) rfl
          replace qa_1 := qa.cell (i := 1) rfl
          replace qa_2 := qa.cell (i := 2) rfl
          replace qa_f0 := qa.free 0
          replace qa_f1 := qa.free 1
          replace qa_f2 := qa.free 2
          replace qa_lt := qa.lt
          skip
          skip
          refine stepD 5 rfl (by kernel_rfl) (fun Kc hKc => ?_)
          refine Eq.mpr (if_pos (by kernel_rfl)) ?_
          go_simp
          have hE1 : Ext w7 (w7.alloc (Obj.cells #[.bool false, .slice none 0 0, .slice none 0 0] 28)) := (Below.refl _ _).alloc (Nat.le_refl _) _
          have qb : Blk (w7.alloc (Obj.cells #[.bool false, .slice none 0 0, .slice none 0 0] 28)) w7.heap.size 28 #[.bool false, .slice none 0 0, .slice none 0 0] := Blk.new w7 28 #[.bool false, .slice none 0 0, .slice none 0 0]
          replace hE0 := Ext.trans hE0 hE1
          skip
          replace p0 := p0.ext hE1; replace p0_0 := p0.cell (i := 0) rfl; replace p0_1 := p0.cell (i := 1) rfl; replace p0_2 := p0.cell (i := 2) rfl; replace p1 := p1.ext hE1; replace p1_0 := p1.cell (i := 0) rfl; replace p1_1 := p1.cell (i := 1) rfl; replace p1_2 := p1.cell (i := 2) rfl; replace qa := qa.ext hE1; replace qa_0 := qa.cell (i := 0) rfl; replace qa_1 := qa.cell (i := 1) rfl; replace qa_2 := qa.cell (i := 2) rfl; replace qa_f0 := qa.free 0; replace qa_f1 := qa.free 1; replace qa_f2 := qa.free 2; replace qa_lt := qa.lt
          replace hk5 := Kept.trans hk5 (Ext.kept hE1)
          replace hk6 := Kept.trans hk6 (Ext.kept hE1)
          have hs3 := hE1.size
          clear hE1
          refine hKc.out _ _ ⟨p0_0, p0_1, p0_2, p1_0, p1_1, p1_2⟩ (fun hHeld => ?_)
          clear hKc Kc
          try simp only [Act.put, List.setIfInBounds_toArray, List.set_cons_zero, List.set_cons_succ]
          have ltqB : w7.heap.size < (w7.alloc (Obj.cells #[.bool false, .slice none 0 0, .slice none 0 0] 28)).heap.size := qb.lt
          generalize (w7.alloc (Obj.cells #[.bool false, .slice none 0 0, .slice none 0 0] 28)) = w8 at *
          obtain ⟨qB, hqB⟩ : ∃ q, w7.heap.size = q := ⟨_, rfl⟩
          have geqB : w7.heap.size ≤ qB := Nat.le_of_eq hqB
          have leqB : qB ≤ w7.heap.size := Nat.le_of_eq hqB.symm
          rw [hqB] at qb ⊢
          clear hqB
          skip
          replace qb_0 := qb.cell (i := 0) rfl
          replace qb_1 := qb.cell (i := 1) rfl
          replace qb_2 := qb.cell (i := 2) rfl
          replace qb_f0 := qb.free 0
          replace qb_f1 := qb.free 1
          replace qb_f2 := qb.free 2
          replace qb_lt := qb.lt
          obtain ⟨wL, rfl⟩ : ∃ x : World, x = w8 := ⟨_, rfl⟩
    all_goals
      have ne1 : w.heap.size ≠ qA := by omega
      have ne2 : w.heap.size + 1 ≠ qA := by omega
      have ne3 : w.heap.size ≠ qB := by omega
      have ne4 : w.heap.size + 1 ≠ qB := by omega
      have ne5 : qA ≠ qB := by omega
      have ne6 : qB ≠ qA := by omega
      skip
      skip
      refine stepD 6 rfl (by kernel_rfl) (fun Kc hKc => ?_)
      refine Eq.mpr (if_pos (by kernel_rfl)) ?_
      go_simp
      replace qa := qa.set 0 (.bool b)
      replace p0 := p0.set_ne 0 (.bool b) (show w.heap.size ≠ qA by omega)
      replace p1 := p1.set_ne 0 (.bool b) (show w.heap.size + 1 ≠ qA by omega)
      replace qb := qb.set_ne 0 (.bool b) (show qB ≠ qA by omega)
      replace qa := qa.set 1 (.slice a3 n c3)
      replace p0 := p0.set_ne 1 (.slice a3 n c3) (show w.heap.size ≠ qA by omega)
      replace p1 := p1.set_ne 1 (.slice a3 n c3) (show w.heap.size + 1 ≠ qA by omega)
      replace qb := qb.set_ne 1 (.slice a3 n c3) (show qB ≠ qA by omega)
      replace qa := qa.set 2 (.slice a4 n2 c4)
      replace p0 := p0.set_ne 2 (.slice a4 n2 c4) (show w.heap.size ≠ qA by omega)
      replace p1 := p1.set_ne 2 (.slice a4 n2 c4) (show w.heap.size + 1 ≠ qA by omega)
      replace qb := qb.set_ne 2 (.slice a4 n2 c4) (show qB ≠ qA by omega)
      have hKW8 : ∀ bB_ : Nat, qA < bB_ → Kept bB_ wL ((((wL).setCell ⟨qA, 0, none⟩ (.bool b)).setCell ⟨qA, 1, none⟩ (.slice a3 n c3)).setCell ⟨qA, 2, none⟩ (.slice a4 n2 c4)) := fun bB_ h0 => (Kept.trans (kept_set _ _ _ h0) (Kept.trans (kept_set _ _ _ h0) (kept_set _ _ _ h0)))
      have hzW8 : wL.heap.size ≤ ((((wL).setCell ⟨qA, 0, none⟩ (.bool b)).setCell ⟨qA, 1, none⟩ (.slice a3 n c3)).setCell ⟨qA, 2, none⟩ (.slice a4 n2 c4)).heap.size := by simp only [World.setCell, Array.size_modify]; exact Nat.le_refl _
      have hSW8 : ∀ (nB_ : Nat) (uB_ : World), nB_ ≤ qA → Below nB_ uB_ wL → Below nB_ uB_ ((((wL).setCell ⟨qA, 0, none⟩ (.bool b)).setCell ⟨qA, 1, none⟩ (.slice a3 n c3)).setCell ⟨qA, 2, none⟩ (.slice a4 n2 c4)) := fun nB_ uB_ h0 hb => (Below.setCell (Below.setCell (Below.setCell hb (p := ⟨qA, 0, none⟩) h0 (.bool b)) (p := ⟨qA, 1, none⟩) h0 (.slice a3 n c3)) (p := ⟨qA, 2, none⟩) h0 (.slice a4 n2 c4))
      have hTW8 : ∀ (bB_ : Nat) (uB_ : World), (qA < bB_ ∨ uB_.heap.size ≤ qA) → Kept bB_ uB_ wL → Kept bB_ uB_ ((((wL).setCell ⟨qA, 0, none⟩ (.bool b)).setCell ⟨qA, 1, none⟩ (.slice a3 n c3)).setCell ⟨qA, 2, none⟩ (.slice a4 n2 c4)) := fun bB_ uB_ h0 hb => (kept_step (kept_step (kept_step hb h0) h0) h0)
      replace qa : Blk ((((wL).setCell ⟨qA, 0, none⟩ (.bool b)).setCell ⟨qA, 1, none⟩ (.slice a3 n c3)).setCell ⟨qA, 2, none⟩ (.slice a4 n2 c4)) (qA) 28 #[.bool b, .slice a3 n c3, .slice a4 n2 c4] := qa
      generalize hgW8 : (((wL).setCell ⟨qA, 0, none⟩ (.bool b)).setCell ⟨qA, 1, none⟩ (.slice a3 n c3)).setCell ⟨qA, 2, none⟩ (.slice a4 n2 c4) = W8 at *
      clear hgW8
      replace qa_0 := qa.cell (i := 0) rfl
      replace qa_1 := qa.cell (i := 1) rfl
      replace qa_2 := qa.cell (i := 2) rfl
      replace qa_f0 := qa.free 0
      replace qa_f1 := qa.free 1
      replace qa_f2 := qa.free 2
      replace qa_lt := qa.lt
      replace p0_0 := p0.cell (i := 0) rfl
      replace p0_1 := p0.cell (i := 1) rfl
      replace p0_2 := p0.cell (i := 2) rfl
      replace p1_0 := p1.cell (i := 0) rfl
      replace p1_1 := p1.cell (i := 1) rfl
      replace p1_2 := p1.cell (i := 2) rfl
      replace qb_0 := qb.cell (i := 0) rfl
      replace qb_1 := qb.cell (i := 1) rfl
      replace qb_2 := qb.cell (i := 2) rfl
      replace qb_f0 := qb.free 0
      replace qb_f1 := qb.free 1
      replace qb_f2 := qb.free 2
      replace qb_lt := qb.lt
      refine hKc.out _ _ ⟨p0_0, p0_1, p0_2, p1_0, p1_1, p1_2⟩ (fun hHeld => ?_)
      clear hKc Kc
      try simp only [Act.put, List.setIfInBounds_toArray, List.set_cons_zero, List.set_cons_succ]
      refine stepD 7 rfl (by kernel_rfl) (fun Kc hKc => ?_)
      refine Eq.mpr (if_pos (by kernel_rfl)) ?_
      go_simp
      replace qb := qb.set 0 (.bool b')
      replace p0 := p0.set_ne 0 (.bool b') (show w.heap.size ≠ qB by omega)
      replace p1 := p1.set_ne 0 (.bool b') (show w.heap.size + 1 ≠ qB by omega)
      replace qa := qa.set_ne 0 (.bool b') (show qA ≠ qB by omega)
      replace qb := qb.set 1 (.slice a5 n' c5)
      replace p0 := p0.set_ne 1 (.slice a5 n' c5) (show w.heap.size ≠ qB by omega)
      replace p1 := p1.set_ne 1 (.slice a5 n' c5) (show w.heap.size + 1 ≠ qB by omega)
      replace qa := qa.set_ne 1 (.slice a5 n' c5) (show qA ≠ qB by omega)
      replace qb := qb.set 2 (.slice a6 n2' c6)
      replace p0 := p0.set_ne 2 (.slice a6 n2' c6) (show w.heap.size ≠ qB by omega)
      replace p1 := p1.set_ne 2 (.slice a6 n2' c6) (show w.heap.size + 1 ≠ qB by omega)
      replace qa := qa.set_ne 2 (.slice a6 n2' c6) (show qA ≠ qB by omega)
      have hKW9 : ∀ bB_ : Nat, qB < bB_ → Kept bB_ W8 ((((W8).setCell ⟨qB, 0, none⟩ (.bool b')).setCell ⟨qB, 1, none⟩ (.slice a5 n' c5)).setCell ⟨qB, 2, none⟩ (.slice a6 n2' c6)) := fun bB_ h0 => (Kept.trans (kept_set _ _ _ h0) (Kept.trans (kept_set _ _ _ h0) (kept_set _ _ _ h0)))
      have hzW9 : W8.heap.size ≤ ((((W8).setCell ⟨qB, 0, none⟩ (.bool b')).setCell ⟨qB, 1, none⟩ (.slice a5 n' c5)).setCell ⟨qB, 2, none⟩ (.slice a6 n2' c6)).heap.size := by simp only [World.setCell, Array.size_modify]; exact Nat.le_refl _
      have hSW9 : ∀ (nB_ : Nat) (uB_ : World), nB_ ≤ qB → Below nB_ uB_ W8 → Below nB_ uB_ ((((W8).setCell ⟨qB, 0, none⟩ (.bool b')).setCell ⟨qB, 1, none⟩ (.slice a5 n' c5)).setCell ⟨qB, 2, none⟩ (.slice a6 n2' c6)) := fun nB_ uB_ h0 hb => (Below.setCell (Below.setCell (Below.setCell hb (p := ⟨qB, 0, none⟩) h0 (.bool b')) (p := ⟨qB, 1, none⟩) h0 (.slice a5 n' c5)) (p := ⟨qB, 2, none⟩) h0 (.slice a6 n2' c6))
      have hTW9 : ∀ (bB_ : Nat) (uB_ : World), (qB < bB_ ∨ uB_.heap.size ≤ qB) → Kept bB_ uB_ W8 → Kept bB_ uB_ ((((W8).setCell ⟨qB, 0, none⟩ (.bool b')).setCell ⟨qB, 1, none⟩ (.slice a5 n' c5)).setCell ⟨qB, 2, none⟩ (.slice a6 n2' c6)) := fun bB_ uB_ h0 hb => (kept_step (kept_step (kept_step hb h0) h0) h0)
      replace qb : Blk ((((W8).setCell ⟨qB, 0, none⟩ (.bool b')).setCell ⟨qB, 1, none⟩ (.slice a5 n' c5)).setCell ⟨qB, 2, none⟩ (.slice a6 n2' c6)) (qB) 28 #[.bool b', .slice a5 n' c5, .slice a6 n2' c6] := qb
      generalize hgW9 : (((W8).setCell ⟨qB, 0, none⟩ (.bool b')).setCell ⟨qB, 1, none⟩ (.slice a5 n' c5)).setCell ⟨qB, 2, none⟩ (.slice a6 n2' c6) = W9 at *
      clear hgW9
      replace qb_0 := qb.cell (i := 0) rfl
      replace qb_1 := qb.cell (i := 1) rfl
      replace qb_2 := qb.cell (i := 2) rfl
      replace qb_f0 := qb.free 0
      replace qb_f1 := qb.free 1
      replace qb_f2 := qb.free 2
      replace qb_lt := qb.lt
      replace p0_0 := p0.cell (i := 0) rfl
      replace p0_1 := p0.cell (i := 1) rfl
      replace p0_2 := p0.cell (i := 2) rfl
      replace p1_0 := p1.cell (i := 0) rfl
      replace p1_1 := p1.cell (i := 1) rfl
      replace p1_2 := p1.cell (i := 2) rfl
      replace qa_0 := qa.cell (i := 0) rfl
      replace qa_1 := qa.cell (i := 1) rfl
      replace qa_2 := qa.cell (i := 2) rfl
      replace qa_f0 := qa.free 0
      replace qa_f1 := qa.free 1
      replace qa_f2 := qa.free 2
      replace qa_lt := qa.lt
      refine hKc.out _ _ ⟨p0_0, p0_1, p0_2, p1_0, p1_1, p1_2⟩ (fun hHeld => ?_)
      clear hKc Kc
      try simp only [Act.put, List.setIfInBounds_toArray, List.set_cons_zero, List.set_cons_succ]
      refine wpAnyH_done (by kernel_rfl) ?_ _
      refine NoPanic.normal ?_
      go_wp2_with fail
      go_meet
      exact ⟨qA, qB, a3, c3, a4, c4, a5, c5, a6, c6, rfl, rfl, ne5, Lib.hid qa, Lib.hid qb, Lib.hid (h5.mono (Nat.le_refl _) (hTW9 _ _ (by first | exact Or.inl (by omega) | exact Or.inr (by omega)) (hTW8 _ _ (by first | exact Or.inl (by omega) | exact Or.inr (by omega)) hk5))).zero, Lib.hid (h6.mono (Nat.le_refl _) (hTW9 _ _ (by first | exact Or.inl (by omega) | exact Or.inr (by omega)) (hTW8 _ _ (by first | exact Or.inl (by omega) | exact Or.inr (by omega)) hk6))).zero, Lib.hid (hSW9 _ _ (by omega) (hSW8 _ _ (by omega) hE0))⟩
  case rest =>
    obtain ⟨q1, q2, a3, c3, a4, c4, a5, c5, a6, c6, rfl, rfl, hq12, HB1, HB2, HP, HQ, HE1⟩ := hcut
    obtain ⟨w1, rfl⟩ : ∃ x : World, x = wc := ⟨_, rfl⟩
    have qa := HB1.out
    have qb := HB2.out
    skip
    skip
    replace qa_0 := qa.cell (i := 0) rfl
    replace qa_1 := qa.cell (i := 1) rfl
    replace qa_2 := qa.cell (i := 2) rfl
    replace qb_0 := qb.cell (i := 0) rfl
    replace qb_1 := qb.cell (i := 1) rfl
    replace qb_2 := qb.cell (i := 2) rfl
    have hE1 := HE1.out
    replace p0 := p0.ext hE1; replace p0_0 := p0.cell (i := 0) rfl; replace p0_1 := p0.cell (i := 1) rfl; replace p0_2 := p0.cell (i := 2) rfl; replace p1 := p1.ext hE1; replace p1_0 := p1.cell (i := 0) rfl; replace p1_1 := p1.cell (i := 1) rfl; replace p1_2 := p1.cell (i := 2) rfl
    have HEa := Lib.hid (Ext.trans hEW hE1)
    have HB1 := Lib.hid qa
    clear hE1 hEW HE1 HB1 HB2
    go_wp2_with fail
    (with_reducible refine (mul_ans K (by omega) w1 b a3 a4 n c3 n2 c4 x HP.out.mat b' a5 a6 n' c5 n2' c6 y HQ.out.mat (by omega) (by omega) (Nat.le_trans HCX.out (by decide)) (Nat.le_trans HCY.out (by decide)) s1 HS1 qm HQM).mono ?_)
    rintro e w2 ⟨bm, am, nm, cm, am2, nm2, cm2, rfl, hE2, hme, hmo⟩
    replace p0 := p0.ext hE2; replace p0_0 := p0.cell (i := 0) rfl; replace p0_1 := p0.cell (i := 1) rfl; replace p0_2 := p0.cell (i := 2) rfl; replace p1 := p1.ext hE2; replace p1_0 := p1.cell (i := 0) rfl; replace p1_1 := p1.cell (i := 1) rfl; replace p1_2 := p1.cell (i := 2) rfl; replace qa := qa.ext hE2; replace qa_0 := qa.cell (i := 0) rfl; replace qa_1 := qa.cell (i := 1) rfl; replace qa_2 := qa.cell (i := 2) rfl; replace qb := qb.ext hE2; replace qb_0 := qb.cell (i := 0) rfl; replace qb_1 := qb.cell (i := 1) rfl; replace qb_2 := qb.cell (i := 2) rfl
    go_upto_region 3 with (fail)
    have mb := Blk.new w2 28 #[.bool bm, .slice am nm cm, .slice am2 nm2 cm2]
    have hEW2 : Ext w2 (w2.alloc (Obj.cells #[.bool bm, .slice am nm cm, .slice am2 nm2 cm2] 28)) := ((Below.refl _ w2).alloc (by simp) _)
    generalize hgW2 : w2.alloc (Obj.cells #[.bool bm, .slice am nm cm, .slice am2 nm2 cm2] 28) = W2 at *
    clear hgW2
    replace mb_0 := mb.cell (i := 0) rfl
    replace mb_1 := mb.cell (i := 1) rfl
    replace mb_2 := mb.cell (i := 2) rfl
    replace p0 := p0.ext hEW2; replace p0_0 := p0.cell (i := 0) rfl; replace p0_1 := p0.cell (i := 1) rfl; replace p0_2 := p0.cell (i := 2) rfl; replace p1 := p1.ext hEW2; replace p1_0 := p1.cell (i := 0) rfl; replace p1_1 := p1.cell (i := 1) rfl; replace p1_2 := p1.cell (i := 2) rfl; replace qa := qa.ext hEW2; replace qa_0 := qa.cell (i := 0) rfl; replace qa_1 := qa.cell (i := 1) rfl; replace qa_2 := qa.cell (i := 2) rfl; replace qb := qb.ext hEW2; replace qb_0 := qb.cell (i := 0) rfl; replace qb_1 := qb.cell (i := 1) rfl; replace qb_2 := qb.cell (i := 2) rfl
    have HEb := Lib.hid (Ext.trans hE2 hEW2)
    have HME := Lib.hid hme
    have HMO : Hid (s1 = 0 → bm = false ∧ NatS 0 W2 am nm cm (limbs (nrmD qm)) ∧ Sl rInts 0 W2 am2 nm2 cm2 (rawM (nrmZ qm))) := Lib.hid (fun h0 => ⟨(hmo h0).1, (hmo h0).2.1.ext (Nat.zero_le _) hEW2, (hmo h0).2.2.ext (Nat.zero_le _) hEW2⟩)
    clear hE2 hEW2 hme hmo
    go_wp2_with fail
    (with_reducible refine (kron_ans K (by omega) W2 b a3 a4 n c3 n2 c4 x (HP.out.ext HEb.out).mat b' a5 a6 n' c5 n2' c6 y (HQ.out.ext HEb.out).mat (by omega) (by omega) (Nat.le_trans HCX.out (by decide)) (Nat.le_trans HCY.out (by decide)) s2 HS2 qk HQK).mono ?_)
    rintro e w3 ⟨bk, ak, nk, ck, ak2, nk2, ck2, rfl, hE3, hke, hko⟩
    replace p0 := p0.ext hE3; replace p0_0 := p0.cell (i := 0) rfl; replace p0_1 := p0.cell (i := 1) rfl; replace p0_2 := p0.cell (i := 2) rfl; replace p1 := p1.ext hE3; replace p1_0 := p1.cell (i := 0) rfl; replace p1_1 := p1.cell (i := 1) rfl; replace p1_2 := p1.cell (i := 2) rfl; replace qa := qa.ext hE3; replace qa_0 := qa.cell (i := 0) rfl; replace qa_1 := qa.cell (i := 1) rfl; replace qa_2 := qa.cell (i := 2) rfl; replace qb := qb.ext hE3; replace qb_0 := qb.cell (i := 0) rfl; replace qb_1 := qb.cell (i := 1) rfl; replace qb_2 := qb.cell (i := 2) rfl; replace mb := mb.ext hE3; replace mb_0 := mb.cell (i := 0) rfl; replace mb_1 := mb.cell (i := 1) rfl; replace mb_2 := mb.cell (i := 2) rfl
    go_upto_region 4 with (fail)
    have kb := Blk.new w3 28 #[.bool bk, .slice ak nk ck, .slice ak2 nk2 ck2]
    have hEW3 : Ext w3 (w3.alloc (Obj.cells #[.bool bk, .slice ak nk ck, .slice ak2 nk2 ck2] 28)) := ((Below.refl _ w3).alloc (by simp) _)
    generalize hgW3 : w3.alloc (Obj.cells #[.bool bk, .slice ak nk ck, .slice ak2 nk2 ck2] 28) = W3 at *
    clear hgW3
    replace kb_0 := kb.cell (i := 0) rfl
    replace kb_1 := kb.cell (i := 1) rfl
    replace kb_2 := kb.cell (i := 2) rfl
    replace p0 := p0.ext hEW3; replace p0_0 := p0.cell (i := 0) rfl; replace p0_1 := p0.cell (i := 1) rfl; replace p0_2 := p0.cell (i := 2) rfl; replace p1 := p1.ext hEW3; replace p1_0 := p1.cell (i := 0) rfl; replace p1_1 := p1.cell (i := 1) rfl; replace p1_2 := p1.cell (i := 2) rfl; replace qa := qa.ext hEW3; replace qa_0 := qa.cell (i := 0) rfl; replace qa_1 := qa.cell (i := 1) rfl; replace qa_2 := qa.cell (i := 2) rfl; replace qb := qb.ext hEW3; replace qb_0 := qb.cell (i := 0) rfl; replace qb_1 := qb.cell (i := 1) rfl; replace qb_2 := qb.cell (i := 2) rfl; replace mb := mb.ext hEW3; replace mb_0 := mb.cell (i := 0) rfl; replace mb_1 := mb.cell (i := 1) rfl; replace mb_2 := mb.cell (i := 2) rfl
    have HEc := Lib.hid (Ext.trans hE3 hEW3)
    have HKE := Lib.hid hke
    have HKO : Hid (s2 = 0 → bk = false ∧ NatS 0 W3 ak nk ck (limbs (nrmD qk)) ∧ Sl rInts 0 W3 ak2 nk2 ck2 (rawM (nrmZ qk))) := Lib.hid (fun h0 => ⟨(hko h0).1, (hko h0).2.1.ext (Nat.zero_le _) hEW3, (hko h0).2.2.ext (Nat.zero_le _) hEW3⟩)
    have HEx := Lib.hid (Ext.trans HEa.out (Ext.trans HEb.out HEc.out))
    clear hE3 hEW3 hke hko
    go_wp2_with fail
    (with_reducible refine (both_any K (by omega) W3 b a a2 n c n2 c2 x (HXM.out.ext HEx.out) b' a' a2' n' c' n2' c2' y (HYM.out.ext HEx.out) s0 HS0).mono ?_)
    rintro e w4 ⟨rfl, hE4⟩
    replace p0 := p0.ext hE4; replace p0_0 := p0.cell (i := 0) rfl; replace p0_1 := p0.cell (i := 1) rfl; replace p0_2 := p0.cell (i := 2) rfl; replace p1 := p1.ext hE4; replace p1_0 := p1.cell (i := 0) rfl; replace p1_1 := p1.cell (i := 1) rfl; replace p1_2 := p1.cell (i := 2) rfl; replace qa := qa.ext hE4; replace qa_0 := qa.cell (i := 0) rfl; replace qa_1 := qa.cell (i := 1) rfl; replace qa_2 := qa.cell (i := 2) rfl; replace qb := qb.ext hE4; replace qb_0 := qb.cell (i := 0) rfl; replace qb_1 := qb.cell (i := 1) rfl; replace qb_2 := qb.cell (i := 2) rfl; replace mb := mb.ext hE4; replace mb_0 := mb.cell (i := 0) rfl; replace mb_1 := mb.cell (i := 1) rfl; replace mb_2 := mb.cell (i := 2) rfl; replace kb := kb.ext hE4; replace kb_0 := kb.cell (i := 0) rfl; replace kb_1 := kb.cell (i := 1) rfl; replace kb_2 := kb.cell (i := 2) rfl
    go_wp2_with fail
    (with_reducible refine (r11Size_any K w4 b a a2 n c n2 c2 x.1 x.2 (HXM.out.ext (Ext.trans HEx.out hE4)) mx HMX).mono ?_)
    rintro e w5 ⟨rfl, hE5⟩
    replace p0 := p0.ext hE5; replace p0_0 := p0.cell (i := 0) rfl; replace p0_1 := p0.cell (i := 1) rfl; replace p0_2 := p0.cell (i := 2) rfl; replace p1 := p1.ext hE5; replace p1_0 := p1.cell (i := 0) rfl; replace p1_1 := p1.cell (i := 1) rfl; replace p1_2 := p1.cell (i := 2) rfl; replace qa := qa.ext hE5; replace qa_0 := qa.cell (i := 0) rfl; replace qa_1 := qa.cell (i := 1) rfl; replace qa_2 := qa.cell (i := 2) rfl; replace qb := qb.ext hE5; replace qb_0 := qb.cell (i := 0) rfl; replace qb_1 := qb.cell (i := 1) rfl; replace qb_2 := qb.cell (i := 2) rfl; replace mb := mb.ext hE5; replace mb_0 := mb.cell (i := 0) rfl; replace mb_1 := mb.cell (i := 1) rfl; replace mb_2 := mb.cell (i := 2) rfl; replace kb := kb.ext hE5; replace kb_0 := kb.cell (i := 0) rfl; replace kb_1 := kb.cell (i := 1) rfl; replace kb_2 := kb.cell (i := 2) rfl
    replace hE5 := Ext.trans hE4 hE5
    go_wp2_with fail
    (with_reducible refine (r11Size_any K w5 b' a' a2' n' c' n2' c2' y.1 y.2 (HYM.out.ext (Ext.trans HEx.out hE5)) my HMY).mono ?_)
    rintro e w7 ⟨rfl, hE7⟩
    replace p0 := p0.ext hE7; replace p0_0 := p0.cell (i := 0) rfl; replace p0_1 := p0.cell (i := 1) rfl; replace p0_2 := p0.cell (i := 2) rfl; replace p1 := p1.ext hE7; replace p1_0 := p1.cell (i := 0) rfl; replace p1_1 := p1.cell (i := 1) rfl; replace p1_2 := p1.cell (i := 2) rfl; replace qa := qa.ext hE7; replace qa_0 := qa.cell (i := 0) rfl; replace qa_1 := qa.cell (i := 1) rfl; replace qa_2 := qa.cell (i := 2) rfl; replace qb := qb.ext hE7; replace qb_0 := qb.cell (i := 0) rfl; replace qb_1 := qb.cell (i := 1) rfl; replace qb_2 := qb.cell (i := 2) rfl; replace mb := mb.ext hE7; replace mb_0 := mb.cell (i := 0) rfl; replace mb_1 := mb.cell (i := 1) rfl; replace mb_2 := mb.cell (i := 2) rfl; replace kb := kb.ext hE7; replace kb_0 := kb.cell (i := 0) rfl; replace kb_1 := kb.cell (i := 1) rfl; replace kb_2 := kb.cell (i := 2) rfl
    have HEd := Lib.hid (Ext.trans hE5 hE7)
    have HP0 := Lib.hid p0
    have HP1 := Lib.hid p1
    have HQA := Lib.hid qa
    have HQB := Lib.hid qb
    have HMB := Lib.hid mb
    have HKB := Lib.hid kb
    clear hE4 hE5 hE7 p0 p1 qa qb mb kb p0_0 p0_1 p0_2 p1_0 p1_1 p1_2 qa_0 qa_1 qa_2 qb_0 qb_1 qb_2 mb_0 mb_1 mb_2 kb_0 kb_1 kb_2
    go_upto_region 8 with (fail)
    go_cut [54] (fun s wx => ∃ ob : Bool, s = .bool ob ∧ Hid (ob = decide (s0 = 0 ∧ ¬ mx = n2')) ∧ wx = w7)
    case first =>
      by_cases g1 : s0 = 0
      · by_cases g2 : mx = n2'
        · have HF : Hid (false = decide (s0 = 0 ∧ ¬ mx = n2')) := Lib.hid (by simp [g2])
          have hgb : ((mx : Int) != (n2' : Int)) = false := by rw [g2]; simp
          have hsb : (s0 == 0) = true := by simpa using g1
          clear g1 g2
          go_wp2_with fail
          go_meet
          exact ⟨false, rfl, HF, rfl⟩
        · have HF : Hid (true = decide (s0 = 0 ∧ ¬ mx = n2')) := Lib.hid (by simp [g1, g2])
          have hgb : ((mx : Int) != (n2' : Int)) = true := by simp; omega
          have hsb : (s0 == 0) = true := by simpa using g1
          clear g1 g2
          go_wp2_with fail
          go_meet
          exact ⟨true, rfl, HF, rfl⟩
      · have HF : Hid (false = decide (s0 = 0 ∧ ¬ mx = n2')) := Lib.hid (by simp [g1])
        have hsb : (s0 == 0) = false := by simpa using g1
        clear g1
        go_wp2_with fail
        go_meet
        exact ⟨false, rfl, HF, rfl⟩
    case rest =>
      obtain ⟨ob, rfl, HOB, hwc⟩ := hcut
      obtain rfl : w7 = wc := hwc.symm
      go_upto_if 54 with (fail)
      go_cut [11] (fun s wx => s = .int .i64 s1 ∧ wx = w7)
      case first =>
        cases ob with
        | true =>
          have HF : Hid (s1 = 2) := Lib.hid (by rw [HC1.out, if_pos (of_decide_eq_true HOB.out.symm)])
          go_wp2_with fail
          go_meet
          exact ⟨by rw [HF.out], rfl⟩
        | false =>
          have HF : Hid (s1 = s0) := Lib.hid (by rw [HC1.out, if_neg (of_decide_eq_false HOB.out.symm)])
          go_wp2_with fail
          go_meet
          exact ⟨by rw [HF.out], rfl⟩
      case rest =>
        obtain ⟨rfl, hwc⟩ := hcut
        obtain rfl : w7 = wc := hwc.symm
        go_upto_region 10 with (fail)
        go_cut [76] (fun s wx => ∃ ob : Bool, s = .bool ob ∧ Hid (ob = decide (s0 = 0 ∧ (1000 < n2 * n2' ∨ 1000 < mx * my))) ∧ wx = w7)
        case first =>
          by_cases g1 : s0 = 0
          · have hsb : (s0 == 0) = true := by simpa using g1
            have key : ∀ m r : Nat, 0 < m → ((1000 : Int) / (m : Int) < (r : Int) ↔ 1000 < r * m) := fun m r hm => by
              have e : (1000 : Int) / (m : Int) = ((1000 / m : Nat) : Int) := by simp
              rw [e, Int.ofNat_lt]
              exact Nat.div_lt_iff_lt_mul hm
            have HKEY := Lib.hid key
            clear key
            by_cases g2 : 0 < n2'
            · have hp2 : (0 : Int) < (n2' : Int) := by omega
              have hz2 : (n2' : Int) ≠ 0 := by omega
              by_cases g3 : (1000 : Int) / (n2' : Int) < (n2 : Int)
              · have HF : Hid (true = decide (s0 = 0 ∧ (1000 < n2 * n2' ∨ 1000 < mx * my))) := Lib.hid (decide_eq_true ⟨g1, .inl ((HKEY.out n2' n2 g2).1 g3)⟩).symm
                have hd := decide_eq_true g3
                clear g1 g2 g3
                go_wp2_with fail
                go_meet
                exact ⟨true, rfl, HF, rfl⟩
              · have hd := decide_eq_false g3
                have HN : Hid (¬ 1000 < n2 * n2') := Lib.hid (fun e => g3 ((HKEY.out n2' n2 g2).2 e))
                clear g2 g3
                by_cases g4 : 0 < my
                · have hp4 : (0 : Int) < (my : Int) := by omega
                  have hz4 : (my : Int) ≠ 0 := by omega
                  by_cases g5 : (1000 : Int) / (my : Int) < (mx : Int)
                  · have HF : Hid (true = decide (s0 = 0 ∧ (1000 < n2 * n2' ∨ 1000 < mx * my))) := Lib.hid (decide_eq_true ⟨g1, .inr ((HKEY.out my mx g4).1 g5)⟩).symm
                    have hd5 := decide_eq_true g5
                    clear g1 g4 g5
                    go_wp2_with fail
                    go_meet
                    exact ⟨true, rfl, HF, rfl⟩
                  · have HF : Hid (false = decide (s0 = 0 ∧ (1000 < n2 * n2' ∨ 1000 < mx * my))) := Lib.hid (decide_eq_false (fun e => e.2.elim HN.out (fun e => g5 ((HKEY.out my mx g4).2 e)))).symm
                    have hd5 := decide_eq_false g5
                    clear g1 g4 g5
                    go_wp2_with fail
                    go_meet
                    exact ⟨false, rfl, HF, rfl⟩
                · obtain rfl : my = 0 := by omega
                  have HF : Hid (false = decide (s0 = 0 ∧ (1000 < n2 * n2' ∨ 1000 < mx * 0))) := Lib.hid (decide_eq_false (fun e => e.2.elim HN.out (fun e => by omega))).symm
                  clear g1 g4
                  go_wp2_with fail
                  go_meet
                  exact ⟨false, rfl, HF, rfl⟩
            · obtain rfl : n2' = 0 := by omega
              clear g2
              by_cases g4 : 0 < my
              · have hp4 : (0 : Int) < (my : Int) := by omega
                have hz4 : (my : Int) ≠ 0 := by omega
                by_cases g5 : (1000 : Int) / (my : Int) < (mx : Int)
                · have HF : Hid (true = decide (s0 = 0 ∧ (1000 < n2 * 0 ∨ 1000 < mx * my))) := Lib.hid (decide_eq_true ⟨g1, .inr ((HKEY.out my mx g4).1 g5)⟩).symm
                  have hd5 := decide_eq_true g5
                  clear g1 g4 g5
                  go_wp2_with fail
                  go_meet
                  exact ⟨true, rfl, HF, rfl⟩
                · have HF : Hid (false = decide (s0 = 0 ∧ (1000 < n2 * 0 ∨ 1000 < mx * my))) := Lib.hid (decide_eq_false (fun e => e.2.elim (fun e => by omega) (fun e => g5 ((HKEY.out my mx g4).2 e)))).symm
                  have hd5 := decide_eq_false g5
                  clear g1 g4 g5
                  go_wp2_with fail
                  go_meet
                  exact ⟨false, rfl, HF, rfl⟩
              · obtain rfl : my = 0 := by omega
                have HF : Hid (false = decide (s0 = 0 ∧ (1000 < n2 * 0 ∨ 1000 < mx * 0))) := Lib.hid (decide_eq_false (fun e => e.2.elim (fun e => by omega) (fun e => by omega))).symm
                clear g1 g4
                go_wp2_with fail
                go_meet
                exact ⟨false, rfl, HF, rfl⟩
          · have HF : Hid (false = decide (s0 = 0 ∧ (1000 < n2 * n2' ∨ 1000 < mx * my))) := Lib.hid (by simp [g1])
            have hsb : (s0 == 0) = false := by simpa using g1
            clear g1
            go_wp2_with fail
            go_meet
            exact ⟨false, rfl, HF, rfl⟩
        case rest =>
          obtain ⟨ob2, rfl, HOB2, hwc⟩ := hcut
          obtain rfl : w7 = wc := hwc.symm
          go_upto_if 76 with (fail)
          go_cut [12] (fun s wx => s = .int .i64 s2 ∧ wx = w7)
          case first =>
            cases ob2 with
            | true =>
              have HF : Hid (s2 = 4) := Lib.hid (by rw [HC2.out, if_pos (of_decide_eq_true HOB2.out.symm)])
              go_wp2_with fail
              go_meet
              exact ⟨by rw [HF.out], rfl⟩
            | false =>
              have HF : Hid (s2 = s0) := Lib.hid (by rw [HC2.out, if_neg (of_decide_eq_false HOB2.out.symm)])
              go_wp2_with fail
              go_meet
              exact ⟨by rw [HF.out], rfl⟩
          case rest =>
            obtain ⟨rfl, hwc⟩ := hcut
            obtain rfl : w7 = wc := hwc.symm
            have HEy := Lib.hid (Ext.trans HEx.out HEd.out)
            have HXL := Lib.hid (HXM.out.ext HEy.out)
            have HYL := Lib.hid (HYM.out.ext HEy.out)
            have HMO2 : Hid (s1 = 0 → bm = false ∧ NatS 0 w7 am nm cm (limbs (nrmD qm)) ∧ Sl rInts 0 w7 am2 nm2 cm2 (rawM (nrmZ qm))) := Lib.hid (fun h0 => ⟨(HMO.out h0).1, (HMO.out h0).2.1.ext (Nat.le_refl _) (Ext.trans HEc.out HEd.out), (HMO.out h0).2.2.ext (Nat.le_refl _) (Ext.trans HEc.out HEd.out)⟩)
            have HKO2 : Hid (s2 = 0 → bk = false ∧ NatS 0 w7 ak nk ck (limbs (nrmD qk)) ∧ Sl rInts 0 w7 ak2 nk2 ck2 (rawM (nrmZ qk))) := Lib.hid (fun h0 => ⟨(HKO.out h0).1, (HKO.out h0).2.1.ext (Nat.le_refl _) HEd.out, (HKO.out h0).2.2.ext (Nat.le_refl _) HEd.out⟩)
            clear HMO HKO HOB HOB2 HC1 HC2
            go_upto_region 12 with (fail)
            go_cut [17] (fun s wx => s = .bool true ∧ Hid (Ext w7 wx))
            case first =>
              have hE0 : Ext w7 w7.drew := (Below.refl _ _).drew
              have p0 := HP0.out.ext hE0
              have p1 := HP1.out.ext hE0
              have mb := HMB.out.ext hE0
              have kb := HKB.out.ext hE0
              skip
              skip
              replace p0_0 := p0.cell (i := 0) rfl
              replace p0_1 := p0.cell (i := 1) rfl
              replace p0_2 := p0.cell (i := 2) rfl
              replace p0_f0 := p0.free 0
              replace p0_f1 := p0.free 1
              replace p0_f2 := p0.free 2
              replace p0_lt := p0.lt
              replace p1_0 := p1.cell (i := 0) rfl
              replace p1_1 := p1.cell (i := 1) rfl
              replace p1_2 := p1.cell (i := 2) rfl
              replace p1_f0 := p1.free 0
              replace p1_f1 := p1.free 1
              replace p1_f2 := p1.free 2
              replace p1_lt := p1.lt
              by_cases t1 : s1 = 0
              · subst t1
                obtain ⟨rfl, hm1, hm2⟩ := HMO2.out rfl
                replace hm1 := hm1.ext (Nat.le_refl _) hE0
                replace hm2 := hm2.ext (Nat.le_refl _) hE0
                by_cases t2 : s2 = 0
                · subst t2
                  obtain ⟨rfl, hk1, hk2⟩ := HKO2.out rfl
                  replace hk1 := hk1.ext (Nat.le_refl _) hE0
                  replace hk2 := hk2.ext (Nat.le_refl _) hE0
                  skip
                  skip
                  replace mb_0 := mb.cell (i := 0) rfl
                  replace mb_1 := mb.cell (i := 1) rfl
                  replace mb_2 := mb.cell (i := 2) rfl
                  replace kb_0 := kb.cell (i := 0) rfl
                  replace kb_1 := kb.cell (i := 1) rfl
                  replace kb_2 := kb.cell (i := 2) rfl
                  refine wp_region_noPanic ?_
                  refine wp_region_held_drew (S := (fun w' => w'.cell? ⟨w.heap.size, 0, none⟩ = some (.bool b) ∧ w'.cell? ⟨w.heap.size, 1, none⟩ = some (.slice a n c) ∧ w'.cell? ⟨w.heap.size, 2, none⟩ = some (.slice a2 n2 c2) ∧ w'.cell? ⟨w.heap.size + 1, 0, none⟩ = some (.bool b') ∧ w'.cell? ⟨w.heap.size + 1, 1, none⟩ = some (.slice a' n' c') ∧ w'.cell? ⟨w.heap.size + 1, 2, none⟩ = some (.slice a2' n2' c2') ∧ w'.cell? ⟨w2.heap.size, 0, none⟩ = some (.bool false) ∧ w'.cell? ⟨w2.heap.size, 1, none⟩ = some (.slice am nm cm) ∧ w'.cell? ⟨w2.heap.size, 2, none⟩ = some (.slice am2 nm2 cm2) ∧ w'.cell? ⟨w3.heap.size, 0, none⟩ = some (.bool false) ∧ w'.cell? ⟨w3.heap.size, 1, none⟩ = some (.slice ak nk ck) ∧ w'.cell? ⟨w3.heap.size, 2, none⟩ = some (.slice ak2 nk2 ck2))) (by kernel_rfl) ⟨p0_0, p0_1, p0_2, p1_0, p1_1, p1_2, mb_0, mb_1, mb_2, kb_0, kb_1, kb_2⟩ (fun hHeld => ?_)
                  refine takeD 0 77 (v := ?_) rfl rfl (by kernel_rfl) (by kernel_rfl) (by kernel_rfl) (fun _ _ _ h => h) (Or.inl ⟨by kernel_rfl, ?hy⟩) hHeld ?_
                  case hy => (intro w hSw; (try dsimp only at hSw); go_simp; try with_reducible rfl)
                  try simp only [List.setIfInBounds_toArray, List.set_cons_zero, List.set_cons_succ]
                  refine takeD 1 78 (v := ?_) rfl rfl (by kernel_rfl) (by kernel_rfl) (by kernel_rfl) (fun _ _ _ h => h) (Or.inl ⟨by kernel_rfl, ?hy⟩) hHeld ?_
                  case hy => (intro w hSw; (try dsimp only at hSw); go_simp; try with_reducible rfl)
                  try simp only [List.setIfInBounds_toArray, List.set_cons_zero, List.set_cons_succ]
                  refine takeD 2 79 (v := ?_) rfl rfl (by kernel_rfl) (by kernel_rfl) (by kernel_rfl) (fun _ _ _ h => h) (Or.inl ⟨by kernel_rfl, ?hy⟩) hHeld ?_
                  case hy => (intro w hSw; (try dsimp only at hSw); go_simp; try with_reducible rfl)
                  try simp only [List.setIfInBounds_toArray, List.set_cons_zero, List.set_cons_succ]
                  refine takeD 3 80 (v := undef) rfl rfl (by kernel_rfl) (by kernel_rfl) (by kernel_rfl) (fun _ _ _ h => h) (Or.inr ⟨by kernel_rfl, rfl⟩) hHeld ?_
                  try simp only [List.setIfInBounds_toArray, List.set_cons_zero, List.set_cons_succ]
                  refine takeD 4 81 (v := undef) rfl rfl (by kernel_rfl) (by kernel_rfl) (by kernel_rfl) (fun _ _ _ h => h) (Or.inr ⟨by kernel_rfl, rfl⟩) hHeld ?_
                  try simp only [List.setIfInBounds_toArray, List.set_cons_zero, List.set_cons_succ]
                  refine takeD 5 82 (v := undef) rfl rfl (by kernel_rfl) (by kernel_rfl) (by kernel_rfl) (fun _ _ _ h => h) (Or.inr ⟨by kernel_rfl, rfl⟩) hHeld ?_
                  try simp only [List.setIfInBounds_toArray, List.set_cons_zero, List.set_cons_succ]
                  refine skipD 6 83 rfl rfl (by kernel_rfl) (by kernel_rfl) hHeld ?_
                  try simp only [List.setIfInBounds_toArray, List.set_cons_zero, List.set_cons_succ]
                  refine takeD 7 84 (v := ?_) rfl rfl (by kernel_rfl) (by kernel_rfl) (by kernel_rfl) (fun _ _ _ h => h) (Or.inl ⟨by kernel_rfl, ?hy⟩) hHeld ?_
                  case hy => (intro w hSw; (try dsimp only at hSw); go_simp; try with_reducible rfl)
                  try simp only [List.setIfInBounds_toArray, List.set_cons_zero, List.set_cons_succ]
                  refine takeD 8 85 (v := ?_) rfl rfl (by kernel_rfl) (by kernel_rfl) (by kernel_rfl) (fun _ _ _ h => h) (Or.inl ⟨by kernel_rfl, ?hy⟩) hHeld ?_
                  case hy => (intro w hSw; (try dsimp only at hSw); go_simp; try with_reducible rfl)
                  try simp only [List.setIfInBounds_toArray, List.set_cons_zero, List.set_cons_succ]
                  refine takeD 9 86 (v := ?_) rfl rfl (by kernel_rfl) (by kernel_rfl) (by kernel_rfl) (fun _ _ _ h => h) (Or.inl ⟨by kernel_rfl, ?hy⟩) hHeld ?_
                  case hy => (intro w hSw; (try dsimp only at hSw); go_simp; try with_reducible rfl)
                  try simp only [List.setIfInBounds_toArray, List.set_cons_zero, List.set_cons_succ]
                  refine takeD 10 87 (v := ?_) rfl rfl (by kernel_rfl) (by kernel_rfl) (by kernel_rfl) (fun _ _ _ h => h) (Or.inl ⟨by kernel_rfl, ?hy⟩) hHeld ?_
                  case hy => (intro w hSw; (try dsimp only at hSw); go_simp; try with_reducible rfl)
                  try simp only [List.setIfInBounds_toArray, List.set_cons_zero, List.set_cons_succ]
                  refine takeD 11 88 (v := ?_) rfl rfl (by kernel_rfl) (by kernel_rfl) (by kernel_rfl) (fun _ _ _ h => h) (Or.inl ⟨by kernel_rfl, ?hy⟩) hHeld ?_
                  case hy => (intro w hSw; (try dsimp only at hSw); go_simp; try with_reducible rfl)
                  try simp only [List.setIfInBounds_toArray, List.set_cons_zero, List.set_cons_succ]
                  refine takeD 12 89 (v := ?_) rfl rfl (by kernel_rfl) (by kernel_rfl) (by kernel_rfl) (fun _ _ _ h => h) (Or.inl ⟨by kernel_rfl, ?hy⟩) hHeld ?_
                  case hy => (intro w hSw; (try dsimp only at hSw); go_simp; try with_reducible rfl)
                  try simp only [List.setIfInBounds_toArray, List.set_cons_zero, List.set_cons_succ]
                  refine takeD 13 90 (v := ?_) rfl rfl (by kernel_rfl) (by kernel_rfl) (by kernel_rfl) (fun _ _ _ h => h) (Or.inl ⟨by kernel_rfl, ?hy⟩) hHeld ?_
                  case hy => (intro w hSw; (try dsimp only at hSw); go_simp; try with_reducible rfl)
                  try simp only [List.setIfInBounds_toArray, List.set_cons_zero, List.set_cons_succ]
                  refine takeD 14 91 (v := ?_) rfl rfl (by kernel_rfl) (by kernel_rfl) (by kernel_rfl) (fun _ _ _ h => h) (Or.inl ⟨by kernel_rfl, ?hy⟩) hHeld ?_
                  case hy => (intro w hSw; (try dsimp only at hSw); go_simp; try with_reducible rfl)
                  try simp only [List.setIfInBounds_toArray, List.set_cons_zero, List.set_cons_succ]
                  refine takeD 15 92 (v := ?_) rfl rfl (by kernel_rfl) (by kernel_rfl) (by kernel_rfl) (fun _ _ _ h => h) (Or.inl ⟨by kernel_rfl, ?hy⟩) hHeld ?_
                  case hy => (intro w hSw; (try dsimp only at hSw); go_simp; try with_reducible rfl)
                  try simp only [List.setIfInBounds_toArray, List.set_cons_zero, List.set_cons_succ]
                  refine stepD 16 rfl (by kernel_rfl) (fun Kc hKc => ?_)
                  refine Eq.mpr (if_pos (by kernel_rfl)) ?_
                  go_simp
                  refine (r11Mul_ref K hK _ b a a2 n c n2 c2 x (HXL.out.ext hE0) b' a' a2' n' c' n2' c2' y (HYL.out.ext hE0) HS1 hn2 hn2' HCY.out qm HQM).mono ?_; rintro e w8 ⟨a7, n7, c7, a8, n8, c8, rfl, g1, g2, hE1⟩; replace kb := kb.ext hE1; replace kb_0 := kb.cell (i := 0) rfl; replace kb_1 := kb.cell (i := 1) rfl; replace kb_2 := kb.cell (i := 2) rfl; replace kb_f0 := kb.free 0; replace kb_f1 := kb.free 1; replace kb_f2 := kb.free 2; replace kb_lt := kb.lt; replace mb := mb.ext hE1; replace mb_0 := mb.cell (i := 0) rfl; replace mb_1 := mb.cell (i := 1) rfl; replace mb_2 := mb.cell (i := 2) rfl; replace mb_f0 := mb.free 0; replace mb_f1 := mb.free 1; replace mb_f2 := mb.free 2; replace mb_lt := mb.lt; replace p0 := p0.ext hE1; replace p0_0 := p0.cell (i := 0) rfl; replace p0_1 := p0.cell (i := 1) rfl; replace p0_2 := p0.cell (i := 2) rfl; replace p0_f0 := p0.free 0; replace p0_f1 := p0.free 1; replace p0_f2 := p0.free 2; replace p0_lt := p0.lt; replace p1 := p1.ext hE1; replace p1_0 := p1.cell (i := 0) rfl; replace p1_1 := p1.cell (i := 1) rfl; replace p1_2 := p1.cell (i := 2) rfl; replace p1_f0 := p1.free 0; replace p1_f1 := p1.free 1; replace p1_f2 := p1.free 2; replace p1_lt := p1.lt; replace hm1 := hm1.ext (Nat.le_refl _) hE1; replace hm2 := hm2.ext (Nat.le_refl _) hE1; replace hk1 := hk1.ext (Nat.le_refl _) hE1; replace hk2 := hk2.ext (Nat.le_refl _) hE1; replace hE0 := Ext.trans hE0 hE1
                  go_wp2_with fail
                  refine hKc.out _ _ ⟨p0_0, p0_1, p0_2, p1_0, p1_1, p1_2, mb_0, mb_1, mb_2, kb_0, kb_1, kb_2⟩ (fun hHeld => ?_)
                  clear hKc Kc
                  try simp only [Act.put, List.setIfInBounds_toArray, List.set_cons_zero, List.set_cons_succ]
                  refine stepD 17 rfl (by kernel_rfl) (fun Kc hKc => ?_)
                  refine Eq.mpr (if_pos (by kernel_rfl)) ?_
                  go_simp
                  refine (right_yes _ false am a7 am2 a8 nm cm n7 c7 nm2 cm2 n8 c8 _ _ hm1 g1 hm2 g2).mono ?_; rintro e w9 ⟨rfl, hE1⟩; replace kb := kb.ext hE1; replace kb_0 := kb.cell (i := 0) rfl; replace kb_1 := kb.cell (i := 1) rfl; replace kb_2 := kb.cell (i := 2) rfl; replace kb_f0 := kb.free 0; replace kb_f1 := kb.free 1; replace kb_f2 := kb.free 2; replace kb_lt := kb.lt; replace mb := mb.ext hE1; replace mb_0 := mb.cell (i := 0) rfl; replace mb_1 := mb.cell (i := 1) rfl; replace mb_2 := mb.cell (i := 2) rfl; replace mb_f0 := mb.free 0; replace mb_f1 := mb.free 1; replace mb_f2 := mb.free 2; replace mb_lt := mb.lt; replace p0 := p0.ext hE1; replace p0_0 := p0.cell (i := 0) rfl; replace p0_1 := p0.cell (i := 1) rfl; replace p0_2 := p0.cell (i := 2) rfl; replace p0_f0 := p0.free 0; replace p0_f1 := p0.free 1; replace p0_f2 := p0.free 2; replace p0_lt := p0.lt; replace p1 := p1.ext hE1; replace p1_0 := p1.cell (i := 0) rfl; replace p1_1 := p1.cell (i := 1) rfl; replace p1_2 := p1.cell (i := 2) rfl; replace p1_f0 := p1.free 0; replace p1_f1 := p1.free 1; replace p1_f2 := p1.free 2; replace p1_lt := p1.lt; replace hk1 := hk1.ext (Nat.le_refl _) hE1; replace hk2 := hk2.ext (Nat.le_refl _) hE1; clear hm1 hm2 g1 g2; replace hE0 := Ext.trans hE0 hE1
                  go_wp2_with fail
                  refine hKc.out _ _ ⟨p0_0, p0_1, p0_2, p1_0, p1_1, p1_2, mb_0, mb_1, mb_2, kb_0, kb_1, kb_2⟩ (fun hHeld => ?_)
                  clear hKc Kc
                  try simp only [Act.put, List.setIfInBounds_toArray, List.set_cons_zero, List.set_cons_succ]
                  refine takeD 18 95 (v := ?_) rfl rfl (by kernel_rfl) (by kernel_rfl) (by kernel_rfl) (fun _ _ _ h => h) (Or.inl ⟨by kernel_rfl, ?hy⟩) hHeld ?_
                  case hy => (intro w hSw; (try dsimp only at hSw); go_simp; try with_reducible rfl)
                  try simp only [List.setIfInBounds_toArray, List.set_cons_zero, List.set_cons_succ]
                  refine takeD 19 96 (v := ?_) rfl rfl (by kernel_rfl) (by kernel_rfl) (by kernel_rfl) (fun _ _ _ h => h) (Or.inl ⟨by kernel_rfl, ?hy⟩) hHeld ?_
                  case hy => (intro w hSw; (try dsimp only at hSw); go_simp; try with_reducible rfl)
                  try simp only [List.setIfInBounds_toArray, List.set_cons_zero, List.set_cons_succ]
                  refine takeD 20 97 (v := ?_) rfl rfl (by kernel_rfl) (by kernel_rfl) (by kernel_rfl) (fun _ _ _ h => h) (Or.inl ⟨by kernel_rfl, ?hy⟩) hHeld ?_
                  case hy => (intro w hSw; (try dsimp only at hSw); go_simp; try with_reducible rfl)
                  try simp only [List.setIfInBounds_toArray, List.set_cons_zero, List.set_cons_succ]
                  refine takeD 21 98 (v := ?_) rfl rfl (by kernel_rfl) (by kernel_rfl) (by kernel_rfl) (fun _ _ _ h => h) (Or.inl ⟨by kernel_rfl, ?hy⟩) hHeld ?_
                  case hy => (intro w hSw; (try dsimp only at hSw); go_simp; try with_reducible rfl)
                  try simp only [List.setIfInBounds_toArray, List.set_cons_zero, List.set_cons_succ]
                  refine takeD 22 99 (v := ?_) rfl rfl (by kernel_rfl) (by kernel_rfl) (by kernel_rfl) (fun _ _ _ h => h) (Or.inl ⟨by kernel_rfl, ?hy⟩) hHeld ?_
                  case hy => (intro w hSw; (try dsimp only at hSw); go_simp; try with_reducible rfl)
                  try simp only [List.setIfInBounds_toArray, List.set_cons_zero, List.set_cons_succ]
                  refine takeD 23 100 (v := ?_) rfl rfl (by kernel_rfl) (by kernel_rfl) (by kernel_rfl) (fun _ _ _ h => h) (Or.inl ⟨by kernel_rfl, ?hy⟩) hHeld ?_
                  case hy => (intro w hSw; (try dsimp only at hSw); go_simp; try with_reducible rfl)
                  try simp only [List.setIfInBounds_toArray, List.set_cons_zero, List.set_cons_succ]
                  refine takeD 24 101 (v := undef) rfl rfl (by kernel_rfl) (by kernel_rfl) (by kernel_rfl) (fun _ _ _ h => h) (Or.inr ⟨by kernel_rfl, rfl⟩) hHeld ?_
                  try simp only [List.setIfInBounds_toArray, List.set_cons_zero, List.set_cons_succ]
                  refine takeD 25 102 (v := undef) rfl rfl (by kernel_rfl) (by kernel_rfl) (by kernel_rfl) (fun _ _ _ h => h) (Or.inr ⟨by kernel_rfl, rfl⟩) hHeld ?_
                  try simp only [List.setIfInBounds_toArray, List.set_cons_zero, List.set_cons_succ]
                  refine takeD 26 103 (v := undef) rfl rfl (by kernel_rfl) (by kernel_rfl) (by kernel_rfl) (fun _ _ _ h => h) (Or.inr ⟨by kernel_rfl, rfl⟩) hHeld ?_
                  try simp only [List.setIfInBounds_toArray, List.set_cons_zero, List.set_cons_succ]
                  refine skipD 27 104 rfl rfl (by kernel_rfl) (by kernel_rfl) hHeld ?_
                  try simp only [List.setIfInBounds_toArray, List.set_cons_zero, List.set_cons_succ]
                  refine takeD 28 105 (v := ?_) rfl rfl (by kernel_rfl) (by kernel_rfl) (by kernel_rfl) (fun _ _ _ h => h) (Or.inl ⟨by kernel_rfl, ?hy⟩) hHeld ?_
                  case hy => (intro w hSw; (try dsimp only at hSw); go_simp; try with_reducible rfl)
                  try simp only [List.setIfInBounds_toArray, List.set_cons_zero, List.set_cons_succ]
                  refine takeD 29 106 (v := ?_) rfl rfl (by kernel_rfl) (by kernel_rfl) (by kernel_rfl) (fun _ _ _ h => h) (Or.inl ⟨by kernel_rfl, ?hy⟩) hHeld ?_
                  case hy => (intro w hSw; (try dsimp only at hSw); go_simp; try with_reducible rfl)
                  try simp only [List.setIfInBounds_toArray, List.set_cons_zero, List.set_cons_succ]
                  refine takeD 30 107 (v := ?_) rfl rfl (by kernel_rfl) (by kernel_rfl) (by kernel_rfl) (fun _ _ _ h => h) (Or.inl ⟨by kernel_rfl, ?hy⟩) hHeld ?_
                  case hy => (intro w hSw; (try dsimp only at hSw); go_simp; try with_reducible rfl)
                  try simp only [List.setIfInBounds_toArray, List.set_cons_zero, List.set_cons_succ]
                  refine takeD 31 108 (v := ?_) rfl rfl (by kernel_rfl) (by kernel_rfl) (by kernel_rfl) (fun _ _ _ h => h) (Or.inl ⟨by kernel_rfl, ?hy⟩) hHeld ?_
                  case hy => (intro w hSw; (try dsimp only at hSw); go_simp; try with_reducible rfl)
                  try simp only [List.setIfInBounds_toArray, List.set_cons_zero, List.set_cons_succ]
                  refine takeD 32 109 (v := ?_) rfl rfl (by kernel_rfl) (by kernel_rfl) (by kernel_rfl) (fun _ _ _ h => h) (Or.inl ⟨by kernel_rfl, ?hy⟩) hHeld ?_
                  case hy => (intro w hSw; (try dsimp only at hSw); go_simp; try with_reducible rfl)
                  try simp only [List.setIfInBounds_toArray, List.set_cons_zero, List.set_cons_succ]
                  refine takeD 33 110 (v := ?_) rfl rfl (by kernel_rfl) (by kernel_rfl) (by kernel_rfl) (fun _ _ _ h => h) (Or.inl ⟨by kernel_rfl, ?hy⟩) hHeld ?_
                  case hy => (intro w hSw; (try dsimp only at hSw); go_simp; try with_reducible rfl)
                  try simp only [List.setIfInBounds_toArray, List.set_cons_zero, List.set_cons_succ]
                  refine takeD 34 111 (v := ?_) rfl rfl (by kernel_rfl) (by kernel_rfl) (by kernel_rfl) (fun _ _ _ h => h) (Or.inl ⟨by kernel_rfl, ?hy⟩) hHeld ?_
                  case hy => (intro w hSw; (try dsimp only at hSw); go_simp; try with_reducible rfl)
                  try simp only [List.setIfInBounds_toArray, List.set_cons_zero, List.set_cons_succ]
                  refine takeD 35 112 (v := ?_) rfl rfl (by kernel_rfl) (by kernel_rfl) (by kernel_rfl) (fun _ _ _ h => h) (Or.inl ⟨by kernel_rfl, ?hy⟩) hHeld ?_
                  case hy => (intro w hSw; (try dsimp only at hSw); go_simp; try with_reducible rfl)
                  try simp only [List.setIfInBounds_toArray, List.set_cons_zero, List.set_cons_succ]
                  refine takeD 36 113 (v := ?_) rfl rfl (by kernel_rfl) (by kernel_rfl) (by kernel_rfl) (fun _ _ _ h => h) (Or.inl ⟨by kernel_rfl, ?hy⟩) hHeld ?_
                  case hy => (intro w hSw; (try dsimp only at hSw); go_simp; try with_reducible rfl)
                  try simp only [List.setIfInBounds_toArray, List.set_cons_zero, List.set_cons_succ]
                  refine stepD 37 rfl (by kernel_rfl) (fun Kc hKc => ?_)
                  refine Eq.mpr (if_pos (by kernel_rfl)) ?_
                  go_simp
                  refine (r11Kron_ref K hK _ b a a2 n c n2 c2 x (HXL.out.ext hE0) b' a' a2' n' c' n2' c2' y (HYL.out.ext hE0) HS2 hn2 hn2' HCX.out HCY.out qk HQK).mono ?_; rintro e w10 ⟨a9, n9, c9, a10, n10, c10, rfl, g3, g4, hE1⟩; replace kb := kb.ext hE1; replace kb_0 := kb.cell (i := 0) rfl; replace kb_1 := kb.cell (i := 1) rfl; replace kb_2 := kb.cell (i := 2) rfl; replace kb_f0 := kb.free 0; replace kb_f1 := kb.free 1; replace kb_f2 := kb.free 2; replace kb_lt := kb.lt; replace mb := mb.ext hE1; replace mb_0 := mb.cell (i := 0) rfl; replace mb_1 := mb.cell (i := 1) rfl; replace mb_2 := mb.cell (i := 2) rfl; replace mb_f0 := mb.free 0; replace mb_f1 := mb.free 1; replace mb_f2 := mb.free 2; replace mb_lt := mb.lt; replace p0 := p0.ext hE1; replace p0_0 := p0.cell (i := 0) rfl; replace p0_1 := p0.cell (i := 1) rfl; replace p0_2 := p0.cell (i := 2) rfl; replace p0_f0 := p0.free 0; replace p0_f1 := p0.free 1; replace p0_f2 := p0.free 2; replace p0_lt := p0.lt; replace p1 := p1.ext hE1; replace p1_0 := p1.cell (i := 0) rfl; replace p1_1 := p1.cell (i := 1) rfl; replace p1_2 := p1.cell (i := 2) rfl; replace p1_f0 := p1.free 0; replace p1_f1 := p1.free 1; replace p1_f2 := p1.free 2; replace p1_lt := p1.lt; replace hk1 := hk1.ext (Nat.le_refl _) hE1; replace hk2 := hk2.ext (Nat.le_refl _) hE1; replace hE0 := Ext.trans hE0 hE1
                  go_wp2_with fail
                  refine hKc.out _ _ ⟨p0_0, p0_1, p0_2, p1_0, p1_1, p1_2, mb_0, mb_1, mb_2, kb_0, kb_1, kb_2⟩ (fun hHeld => ?_)
                  clear hKc Kc
                  try simp only [Act.put, List.setIfInBounds_toArray, List.set_cons_zero, List.set_cons_succ]
                  refine stepD 38 rfl (by kernel_rfl) (fun Kc hKc => ?_)
                  refine Eq.mpr (if_pos (by kernel_rfl)) ?_
                  go_simp
                  refine (right_yes _ false ak a9 ak2 a10 nk ck n9 c9 nk2 ck2 n10 c10 _ _ hk1 g3 hk2 g4).mono ?_; rintro e w11 ⟨rfl, hE1⟩; replace kb := kb.ext hE1; replace kb_0 := kb.cell (i := 0) rfl; replace kb_1 := kb.cell (i := 1) rfl; replace kb_2 := kb.cell (i := 2) rfl; replace kb_f0 := kb.free 0; replace kb_f1 := kb.free 1; replace kb_f2 := kb.free 2; replace kb_lt := kb.lt; replace mb := mb.ext hE1; replace mb_0 := mb.cell (i := 0) rfl; replace mb_1 := mb.cell (i := 1) rfl; replace mb_2 := mb.cell (i := 2) rfl; replace mb_f0 := mb.free 0; replace mb_f1 := mb.free 1; replace mb_f2 := mb.free 2; replace mb_lt := mb.lt; replace p0 := p0.ext hE1; replace p0_0 := p0.cell (i := 0) rfl; replace p0_1 := p0.cell (i := 1) rfl; replace p0_2 := p0.cell (i := 2) rfl; replace p0_f0 := p0.free 0; replace p0_f1 := p0.free 1; replace p0_f2 := p0.free 2; replace p0_lt := p0.lt; replace p1 := p1.ext hE1; replace p1_0 := p1.cell (i := 0) rfl; replace p1_1 := p1.cell (i := 1) rfl; replace p1_2 := p1.cell (i := 2) rfl; replace p1_f0 := p1.free 0; replace p1_f1 := p1.free 1; replace p1_f2 := p1.free 2; replace p1_lt := p1.lt; replace hE0 := Ext.trans hE0 hE1
                  go_wp2_with fail
                  refine hKc.out _ _ ⟨p0_0, p0_1, p0_2, p1_0, p1_1, p1_2, mb_0, mb_1, mb_2, kb_0, kb_1, kb_2⟩ (fun hHeld => ?_)
                  clear hKc Kc
                  try simp only [Act.put, List.setIfInBounds_toArray, List.set_cons_zero, List.set_cons_succ]
                  refine takeD 39 116 (v := ?_) rfl rfl (by kernel_rfl) (by kernel_rfl) (by kernel_rfl) (fun _ _ _ h => h) (Or.inl ⟨by kernel_rfl, ?hy⟩) hHeld ?_
                  case hy => (intro w hSw; (try dsimp only at hSw); go_simp; try with_reducible rfl)
                  try simp only [List.setIfInBounds_toArray, List.set_cons_zero, List.set_cons_succ]
                  refine takeD 40 117 (v := ?_) rfl rfl (by kernel_rfl) (by kernel_rfl) (by kernel_rfl) (fun _ _ _ h => h) (Or.inl ⟨by kernel_rfl, ?hy⟩) hHeld ?_
                  case hy => (intro w hSw; (try dsimp only at hSw); go_simp; try with_reducible rfl)
                  try simp only [List.setIfInBounds_toArray, List.set_cons_zero, List.set_cons_succ]
                  refine takeD 41 118 (v := ?_) rfl rfl (by kernel_rfl) (by kernel_rfl) (by kernel_rfl) (fun _ _ _ h => h) (Or.inl ⟨by kernel_rfl, ?hy⟩) hHeld ?_
                  case hy => (intro w hSw; (try dsimp only at hSw); go_simp; try with_reducible rfl)
                  try simp only [List.setIfInBounds_toArray, List.set_cons_zero, List.set_cons_succ]
                  refine takeD 42 17 (v := ?_) rfl rfl (by kernel_rfl) (by kernel_rfl) (by kernel_rfl) (fun _ _ _ h => h) (Or.inl ⟨by kernel_rfl, ?hy⟩) hHeld ?_
                  case hy => (intro w hSw; (try dsimp only at hSw); go_simp; try with_reducible rfl)
                  try simp only [List.setIfInBounds_toArray, List.set_cons_zero, List.set_cons_succ]
                  refine wpAnyH_done (by kernel_rfl) ?_ _
                  refine NoPanic.normal ?_
                  have HEf := Lib.hid hE0
                  clear hE0 p0 p1 mb kb p0_0 p0_1 p0_2 p1_0 p1_1 p1_2 mb_0 mb_1 mb_2 kb_0 kb_1 kb_2
                  go_wp2_with fail
                  go_meet
                  exact ⟨rfl, HEf⟩
                · obtain ⟨rfl, rfl, rfl, rfl, rfl, rfl, rfl⟩ := HKE.out t2
                  have u3 : (s2 != 0) = true := by simpa using t2
                  have u4 : (s2 == 0) = false := by simpa using t2
                  clear t2
                  skip
                  skip
                  replace mb_0 := mb.cell (i := 0) rfl
                  replace mb_1 := mb.cell (i := 1) rfl
                  replace mb_2 := mb.cell (i := 2) rfl
                  replace kb_0 := kb.cell (i := 0) rfl
                  replace kb_1 := kb.cell (i := 1) rfl
                  replace kb_2 := kb.cell (i := 2) rfl
                  refine wp_region_noPanic ?_
                  refine wp_region_held_drew (S := (fun w' => w'.cell? ⟨w.heap.size, 0, none⟩ = some (.bool b) ∧ w'.cell? ⟨w.heap.size, 1, none⟩ = some (.slice a n c) ∧ w'.cell? ⟨w.heap.size, 2, none⟩ = some (.slice a2 n2 c2) ∧ w'.cell? ⟨w.heap.size + 1, 0, none⟩ = some (.bool b') ∧ w'.cell? ⟨w.heap.size + 1, 1, none⟩ = some (.slice a' n' c') ∧ w'.cell? ⟨w.heap.size + 1, 2, none⟩ = some (.slice a2' n2' c2') ∧ w'.cell? ⟨w2.heap.size, 0, none⟩ = some (.bool false) ∧ w'.cell? ⟨w2.heap.size, 1, none⟩ = some (.slice am nm cm) ∧ w'.cell? ⟨w2.heap.size, 2, none⟩ = some (.slice am2 nm2 cm2) ∧ w'.cell? ⟨w3.heap.size, 0, none⟩ = some (.bool false) ∧ w'.cell? ⟨w3.heap.size, 1, none⟩ = some (.slice none 0 0) ∧ w'.cell? ⟨w3.heap.size, 2, none⟩ = some (.slice none 0 0))) (by kernel_rfl) ⟨p0_0, p0_1, p0_2, p1_0, p1_1, p1_2, mb_0, mb_1, mb_2, kb_0, kb_1, kb_2⟩ (fun hHeld => ?_)
                  refine takeD 0 77 (v := ?_) rfl rfl (by kernel_rfl) (by kernel_rfl) (by kernel_rfl) (fun _ _ _ h => h) (Or.inl ⟨by kernel_rfl, ?hy⟩) hHeld ?_
                  case hy => (intro w hSw; (try dsimp only at hSw); go_simp; try with_reducible rfl)
                  try simp only [List.setIfInBounds_toArray, List.set_cons_zero, List.set_cons_succ]
                  refine takeD 1 78 (v := ?_) rfl rfl (by kernel_rfl) (by kernel_rfl) (by kernel_rfl) (fun _ _ _ h => h) (Or.inl ⟨by kernel_rfl, ?hy⟩) hHeld ?_
                  case hy => (intro w hSw; (try dsimp only at hSw); go_simp; try with_reducible rfl)
                  try simp only [List.setIfInBounds_toArray, List.set_cons_zero, List.set_cons_succ]
                  refine takeD 2 79 (v := ?_) rfl rfl (by kernel_rfl) (by kernel_rfl) (by kernel_rfl) (fun _ _ _ h => h) (Or.inl ⟨by kernel_rfl, ?hy⟩) hHeld ?_
                  case hy => (intro w hSw; (try dsimp only at hSw); go_simp; try with_reducible rfl)
                  try simp only [List.setIfInBounds_toArray, List.set_cons_zero, List.set_cons_succ]
                  refine takeD 3 80 (v := undef) rfl rfl (by kernel_rfl) (by kernel_rfl) (by kernel_rfl) (fun _ _ _ h => h) (Or.inr ⟨by kernel_rfl, rfl⟩) hHeld ?_
                  try simp only [List.setIfInBounds_toArray, List.set_cons_zero, List.set_cons_succ]
                  refine takeD 4 81 (v := undef) rfl rfl (by kernel_rfl) (by kernel_rfl) (by kernel_rfl) (fun _ _ _ h => h) (Or.inr ⟨by kernel_rfl, rfl⟩) hHeld ?_
                  try simp only [List.setIfInBounds_toArray, List.set_cons_zero, List.set_cons_succ]
                  refine takeD 5 82 (v := undef) rfl rfl (by kernel_rfl) (by kernel_rfl) (by kernel_rfl) (fun _ _ _ h => h) (Or.inr ⟨by kernel_rfl, rfl⟩) hHeld ?_
                  try simp only [List.setIfInBounds_toArray, List.set_cons_zero, List.set_cons_succ]
                  refine skipD 6 83 rfl rfl (by kernel_rfl) (by kernel_rfl) hHeld ?_
                  try simp only [List.setIfInBounds_toArray, List.set_cons_zero, List.set_cons_succ]
                  refine takeD 7 84 (v := ?_) rfl rfl (by kernel_rfl) (by kernel_rfl) (by kernel_rfl) (fun _ _ _ h => h) (Or.inl ⟨by kernel_rfl, ?hy⟩) hHeld ?_
                  case hy => (intro w hSw; (try dsimp only at hSw); go_simp; try with_reducible rfl)
                  try simp only [List.setIfInBounds_toArray, List.set_cons_zero, List.set_cons_succ]
                  refine takeD 8 85 (v := ?_) rfl rfl (by kernel_rfl) (by kernel_rfl) (by kernel_rfl) (fun _ _ _ h => h) (Or.inl ⟨by kernel_rfl, ?hy⟩) hHeld ?_
                  case hy => (intro w hSw; (try dsimp only at hSw); go_simp; try with_reducible rfl)
                  try simp only [List.setIfInBounds_toArray, List.set_cons_zero, List.set_cons_succ]
                  refine takeD 9 86 (v := ?_) rfl rfl (by kernel_rfl) (by kernel_rfl) (by kernel_rfl) (fun _ _ _ h => h) (Or.inl ⟨by kernel_rfl, ?hy⟩) hHeld ?_
                  case hy => (intro w hSw; (try dsimp only at hSw); go_simp; try with_reducible rfl)
                  try simp only [List.setIfInBounds_toArray, List.set_cons_zero, List.set_cons_succ]
                  refine takeD 10 87 (v := ?_) rfl rfl (by kernel_rfl) (by kernel_rfl) (by kernel_rfl) (fun _ _ _ h => h) (Or.inl ⟨by kernel_rfl, ?hy⟩) hHeld ?_
                  case hy => (intro w hSw; (try dsimp only at hSw); go_simp; try with_reducible rfl)
                  try simp only [List.setIfInBounds_toArray, List.set_cons_zero, List.set_cons_succ]
                  refine takeD 11 88 (v := ?_) rfl rfl (by kernel_rfl) (by kernel_rfl) (by kernel_rfl) (fun _ _ _ h => h) (Or.inl ⟨by kernel_rfl, ?hy⟩) hHeld ?_
                  case hy => (intro w hSw; (try dsimp only at hSw); go_simp; try with_reducible rfl)
                  try simp only [List.setIfInBounds_toArray, List.set_cons_zero, List.set_cons_succ]
                  refine takeD 12 89 (v := ?_) rfl rfl (by kernel_rfl) (by kernel_rfl) (by kernel_rfl) (fun _ _ _ h => h) (Or.inl ⟨by kernel_rfl, ?hy⟩) hHeld ?_
                  case hy => (intro w hSw; (try dsimp only at hSw); go_simp; try with_reducible rfl)
                  try simp only [List.setIfInBounds_toArray, List.set_cons_zero, List.set_cons_succ]
                  refine takeD 13 90 (v := ?_) rfl rfl (by kernel_rfl) (by kernel_rfl) (by kernel_rfl) (fun _ _ _ h => h) (Or.inl ⟨by kernel_rfl, ?hy⟩) hHeld ?_
                  case hy => (intro w hSw; (try dsimp only at hSw); go_simp; try with_reducible rfl)
                  try simp only [List.setIfInBounds_toArray, List.set_cons_zero, List.set_cons_succ]
                  refine takeD 14 91 (v := ?_) rfl rfl (by kernel_rfl) (by kernel_rfl) (by kernel_rfl) (fun _ _ _ h => h) (Or.inl ⟨by kernel_rfl, ?hy⟩) hHeld ?_
                  case hy => (intro w hSw; (try dsimp only at hSw); go_simp; try with_reducible rfl)
                  try simp only [List.setIfInBounds_toArray, List.set_cons_zero, List.set_cons_succ]
                  refine takeD 15 92 (v := ?_) rfl rfl (by kernel_rfl) (by kernel_rfl) (by kernel_rfl) (fun _ _ _ h => h) (Or.inl ⟨by kernel_rfl, ?hy⟩) hHeld ?_
                  case hy => (intro w hSw; (try dsimp only at hSw); go_simp; try with_reducible rfl)
                  try simp only [List.setIfInBounds_toArray, List.set_cons_zero, List.set_cons_succ]
                  refine stepD 16 rfl (by kernel_rfl) (fun Kc hKc => ?_)
                  refine Eq.mpr (if_pos (by kernel_rfl)) ?_
                  go_simp
                  refine (r11Mul_ref K hK _ b a a2 n c n2 c2 x (HXL.out.ext hE0) b' a' a2' n' c' n2' c2' y (HYL.out.ext hE0) HS1 hn2 hn2' HCY.out qm HQM).mono ?_; rintro e w8 ⟨a7, n7, c7, a8, n8, c8, rfl, g1, g2, hE1⟩; replace kb := kb.ext hE1; replace kb_0 := kb.cell (i := 0) rfl; replace kb_1 := kb.cell (i := 1) rfl; replace kb_2 := kb.cell (i := 2) rfl; replace kb_f0 := kb.free 0; replace kb_f1 := kb.free 1; replace kb_f2 := kb.free 2; replace kb_lt := kb.lt; replace mb := mb.ext hE1; replace mb_0 := mb.cell (i := 0) rfl; replace mb_1 := mb.cell (i := 1) rfl; replace mb_2 := mb.cell (i := 2) rfl; replace mb_f0 := mb.free 0; replace mb_f1 := mb.free 1; replace mb_f2 := mb.free 2; replace mb_lt := mb.lt; replace p0 := p0.ext hE1; replace p0_0 := p0.cell (i := 0) rfl; replace p0_1 := p0.cell (i := 1) rfl; replace p0_2 := p0.cell (i := 2) rfl; replace p0_f0 := p0.free 0; replace p0_f1 := p0.free 1; replace p0_f2 := p0.free 2; replace p0_lt := p0.lt; replace p1 := p1.ext hE1; replace p1_0 := p1.cell (i := 0) rfl; replace p1_1 := p1.cell (i := 1) rfl; replace p1_2 := p1.cell (i := 2) rfl; replace p1_f0 := p1.free 0; replace p1_f1 := p1.free 1; replace p1_f2 := p1.free 2; replace p1_lt := p1.lt; replace hm1 := hm1.ext (Nat.le_refl _) hE1; replace hm2 := hm2.ext (Nat.le_refl _) hE1; replace hE0 := Ext.trans hE0 hE1
                  go_wp2_with fail
                  refine hKc.out _ _ ⟨p0_0, p0_1, p0_2, p1_0, p1_1, p1_2, mb_0, mb_1, mb_2, kb_0, kb_1, kb_2⟩ (fun hHeld => ?_)
                  clear hKc Kc
                  try simp only [Act.put, List.setIfInBounds_toArray, List.set_cons_zero, List.set_cons_succ]
                  refine stepD 17 rfl (by kernel_rfl) (fun Kc hKc => ?_)
                  refine Eq.mpr (if_pos (by kernel_rfl)) ?_
                  go_simp
                  refine (right_yes _ false am a7 am2 a8 nm cm n7 c7 nm2 cm2 n8 c8 _ _ hm1 g1 hm2 g2).mono ?_; rintro e w9 ⟨rfl, hE1⟩; replace kb := kb.ext hE1; replace kb_0 := kb.cell (i := 0) rfl; replace kb_1 := kb.cell (i := 1) rfl; replace kb_2 := kb.cell (i := 2) rfl; replace kb_f0 := kb.free 0; replace kb_f1 := kb.free 1; replace kb_f2 := kb.free 2; replace kb_lt := kb.lt; replace mb := mb.ext hE1; replace mb_0 := mb.cell (i := 0) rfl; replace mb_1 := mb.cell (i := 1) rfl; replace mb_2 := mb.cell (i := 2) rfl; replace mb_f0 := mb.free 0; replace mb_f1 := mb.free 1; replace mb_f2 := mb.free 2; replace mb_lt := mb.lt; replace p0 := p0.ext hE1; replace p0_0 := p0.cell (i := 0) rfl; replace p0_1 := p0.cell (i := 1) rfl; replace p0_2 := p0.cell (i := 2) rfl; replace p0_f0 := p0.free 0; replace p0_f1 := p0.free 1; replace p0_f2 := p0.free 2; replace p0_lt := p0.lt; replace p1 := p1.ext hE1; replace p1_0 := p1.cell (i := 0) rfl; replace p1_1 := p1.cell (i := 1) rfl; replace p1_2 := p1.cell (i := 2) rfl; replace p1_f0 := p1.free 0; replace p1_f1 := p1.free 1; replace p1_f2 := p1.free 2; replace p1_lt := p1.lt; clear hm1 hm2 g1 g2; replace hE0 := Ext.trans hE0 hE1
                  go_wp2_with fail
                  refine hKc.out _ _ ⟨p0_0, p0_1, p0_2, p1_0, p1_1, p1_2, mb_0, mb_1, mb_2, kb_0, kb_1, kb_2⟩ (fun hHeld => ?_)
                  clear hKc Kc
                  try simp only [Act.put, List.setIfInBounds_toArray, List.set_cons_zero, List.set_cons_succ]
                  refine takeD 18 95 (v := ?_) rfl rfl (by kernel_rfl) (by kernel_rfl) (by kernel_rfl) (fun _ _ _ h => h) (Or.inl ⟨by kernel_rfl, ?hy⟩) hHeld ?_
                  case hy => (intro w hSw; (try dsimp only at hSw); go_simp; try with_reducible rfl)
                  try simp only [List.setIfInBounds_toArray, List.set_cons_zero, List.set_cons_succ]
                  refine takeD 19 96 (v := ?_) rfl rfl (by kernel_rfl) (by kernel_rfl) (by kernel_rfl) (fun _ _ _ h => h) (Or.inl ⟨by kernel_rfl, ?hy⟩) hHeld ?_
                  case hy => (intro w hSw; (try dsimp only at hSw); go_simp; try with_reducible rfl)
                  try simp only [List.setIfInBounds_toArray, List.set_cons_zero, List.set_cons_succ]
                  refine takeD 20 97 (v := ?_) rfl rfl (by kernel_rfl) (by kernel_rfl) (by kernel_rfl) (fun _ _ _ h => h) (Or.inl ⟨by kernel_rfl, ?hy⟩) hHeld ?_
                  case hy => (intro w hSw; (try dsimp only at hSw); go_simp; try with_reducible rfl)
                  try simp only [List.setIfInBounds_toArray, List.set_cons_zero, List.set_cons_succ]
                  refine takeD 21 98 (v := ?_) rfl rfl (by kernel_rfl) (by kernel_rfl) (by kernel_rfl) (fun _ _ _ h => h) (Or.inl ⟨by kernel_rfl, ?hy⟩) hHeld ?_
                  case hy => (intro w hSw; (try dsimp only at hSw); go_simp; try with_reducible rfl)
                  try simp only [List.setIfInBounds_toArray, List.set_cons_zero, List.set_cons_succ]
                  refine takeD 22 99 (v := ?_) rfl rfl (by kernel_rfl) (by kernel_rfl) (by kernel_rfl) (fun _ _ _ h => h) (Or.inl ⟨by kernel_rfl, ?hy⟩) hHeld ?_
                  case hy => (intro w hSw; (try dsimp only at hSw); go_simp; try with_reducible rfl)
                  try simp only [List.setIfInBounds_toArray, List.set_cons_zero, List.set_cons_succ]
                  refine takeD 23 100 (v := ?_) rfl rfl (by kernel_rfl) (by kernel_rfl) (by kernel_rfl) (fun _ _ _ h => h) (Or.inl ⟨by kernel_rfl, ?hy⟩) hHeld ?_
                  case hy => (intro w hSw; (try dsimp only at hSw); go_simp; try with_reducible rfl)
                  try simp only [List.setIfInBounds_toArray, List.set_cons_zero, List.set_cons_succ]
                  refine takeD 24 101 (v := ?_) rfl rfl (by kernel_rfl) (by kernel_rfl) (by kernel_rfl) (fun _ _ _ h => h) (Or.inl ⟨by kernel_rfl, ?hy⟩) hHeld ?_
                  case hy => (intro w hSw; (try dsimp only at hSw); go_simp; try with_reducible rfl)
                  try simp only [List.setIfInBounds_toArray, List.set_cons_zero, List.set_cons_succ]
                  refine takeD 25 102 (v := ?_) rfl rfl (by kernel_rfl) (by kernel_rfl) (by kernel_rfl) (fun _ _ _ h => h) (Or.inl ⟨by kernel_rfl, ?hy⟩) hHeld ?_
                  case hy => (intro w hSw; (try dsimp only at hSw); go_simp; try with_reducible rfl)
                  try simp only [List.setIfInBounds_toArray, List.set_cons_zero, List.set_cons_succ]
                  refine takeD 26 103 (v := ?_) rfl rfl (by kernel_rfl) (by kernel_rfl) (by kernel_rfl) (fun _ _ _ h => h) (Or.inl ⟨by kernel_rfl, ?hy⟩) hHeld ?_
                  case hy => (intro w hSw; (try dsimp only at hSw); go_simp; try with_reducible rfl)
                  try simp only [List.setIfInBounds_toArray, List.set_cons_zero, List.set_cons_succ]
                  refine stepD 27 rfl (by kernel_rfl) (fun Kc hKc => ?_)
                  refine Eq.mpr (if_pos (by kernel_rfl)) ?_
                  go_simp
                  refine (refused_yes _ s2).mono ?_; rintro e w9 ⟨rfl, hE1⟩; replace kb := kb.ext hE1; replace kb_0 := kb.cell (i := 0) rfl; replace kb_1 := kb.cell (i := 1) rfl; replace kb_2 := kb.cell (i := 2) rfl; replace kb_f0 := kb.free 0; replace kb_f1 := kb.free 1; replace kb_f2 := kb.free 2; replace kb_lt := kb.lt; replace mb := mb.ext hE1; replace mb_0 := mb.cell (i := 0) rfl; replace mb_1 := mb.cell (i := 1) rfl; replace mb_2 := mb.cell (i := 2) rfl; replace mb_f0 := mb.free 0; replace mb_f1 := mb.free 1; replace mb_f2 := mb.free 2; replace mb_lt := mb.lt; replace p0 := p0.ext hE1; replace p0_0 := p0.cell (i := 0) rfl; replace p0_1 := p0.cell (i := 1) rfl; replace p0_2 := p0.cell (i := 2) rfl; replace p0_f0 := p0.free 0; replace p0_f1 := p0.free 1; replace p0_f2 := p0.free 2; replace p0_lt := p0.lt; replace p1 := p1.ext hE1; replace p1_0 := p1.cell (i := 0) rfl; replace p1_1 := p1.cell (i := 1) rfl; replace p1_2 := p1.cell (i := 2) rfl; replace p1_f0 := p1.free 0; replace p1_f1 := p1.free 1; replace p1_f2 := p1.free 2; replace p1_lt := p1.lt; replace hE0 := Ext.trans hE0 hE1
                  go_wp2_with fail
                  refine hKc.out _ _ ⟨p0_0, p0_1, p0_2, p1_0, p1_1, p1_2, mb_0, mb_1, mb_2, kb_0, kb_1, kb_2⟩ (fun hHeld => ?_)
                  clear hKc Kc
                  try simp only [Act.put, List.setIfInBounds_toArray, List.set_cons_zero, List.set_cons_succ]
                  refine takeD 28 105 (v := ?_) rfl rfl (by kernel_rfl) (by kernel_rfl) (by kernel_rfl) (fun _ _ _ h => h) (Or.inl ⟨by kernel_rfl, ?hy⟩) hHeld ?_
                  case hy => (intro w hSw; (try dsimp only at hSw); go_simp; try with_reducible rfl)
                  try simp only [List.setIfInBounds_toArray, List.set_cons_zero, List.set_cons_succ]
                  refine takeD 29 106 (v := ?_) rfl rfl (by kernel_rfl) (by kernel_rfl) (by kernel_rfl) (fun _ _ _ h => h) (Or.inl ⟨by kernel_rfl, ?hy⟩) hHeld ?_
                  case hy => (intro w hSw; (try dsimp only at hSw); go_simp; try with_reducible rfl)
                  try simp only [List.setIfInBounds_toArray, List.set_cons_zero, List.set_cons_succ]
                  refine takeD 30 107 (v := undef) rfl rfl (by kernel_rfl) (by kernel_rfl) (by kernel_rfl) (fun _ _ _ h => h) (Or.inr ⟨by kernel_rfl, rfl⟩) hHeld ?_
                  try simp only [List.setIfInBounds_toArray, List.set_cons_zero, List.set_cons_succ]
                  refine takeD 31 108 (v := undef) rfl rfl (by kernel_rfl) (by kernel_rfl) (by kernel_rfl) (fun _ _ _ h => h) (Or.inr ⟨by kernel_rfl, rfl⟩) hHeld ?_
                  try simp only [List.setIfInBounds_toArray, List.set_cons_zero, List.set_cons_succ]
                  refine takeD 32 109 (v := undef) rfl rfl (by kernel_rfl) (by kernel_rfl) (by kernel_rfl) (fun _ _ _ h => h) (Or.inr ⟨by kernel_rfl, rfl⟩) hHeld ?_
                  try simp only [List.setIfInBounds_toArray, List.set_cons_zero, List.set_cons_succ]
                  refine takeD 33 110 (v := undef) rfl rfl (by kernel_rfl) (by kernel_rfl) (by kernel_rfl) (fun _ _ _ h => h) (Or.inr ⟨by kernel_rfl, rfl⟩) hHeld ?_
                  try simp only [List.setIfInBounds_toArray, List.set_cons_zero, List.set_cons_succ]
                  refine takeD 34 111 (v := undef) rfl rfl (by kernel_rfl) (by kernel_rfl) (by kernel_rfl) (fun _ _ _ h => h) (Or.inr ⟨by kernel_rfl, rfl⟩) hHeld ?_
                  try simp only [List.setIfInBounds_toArray, List.set_cons_zero, List.set_cons_succ]
                  refine takeD 35 112 (v := undef) rfl rfl (by kernel_rfl) (by kernel_rfl) (by kernel_rfl) (fun _ _ _ h => h) (Or.inr ⟨by kernel_rfl, rfl⟩) hHeld ?_
                  try simp only [List.setIfInBounds_toArray, List.set_cons_zero, List.set_cons_succ]
                  refine takeD 36 113 (v := undef) rfl rfl (by kernel_rfl) (by kernel_rfl) (by kernel_rfl) (fun _ _ _ h => h) (Or.inr ⟨by kernel_rfl, rfl⟩) hHeld ?_
                  try simp only [List.setIfInBounds_toArray, List.set_cons_zero, List.set_cons_succ]
                  refine skipD 37 114 rfl rfl (by kernel_rfl) (by kernel_rfl) hHeld ?_
                  try simp only [List.setIfInBounds_toArray, List.set_cons_zero, List.set_cons_succ]
                  refine skipD 38 115 rfl rfl (by kernel_rfl) (by kernel_rfl) hHeld ?_
                  try simp only [List.setIfInBounds_toArray, List.set_cons_zero, List.set_cons_succ]
                  refine takeD 39 116 (v := undef) rfl rfl (by kernel_rfl) (by kernel_rfl) (by kernel_rfl) (fun _ _ _ h => h) (Or.inr ⟨by kernel_rfl, rfl⟩) hHeld ?_
                  try simp only [List.setIfInBounds_toArray, List.set_cons_zero, List.set_cons_succ]
                  refine takeD 40 117 (v := ?_) rfl rfl (by kernel_rfl) (by kernel_rfl) (by kernel_rfl) (fun _ _ _ h => h) (Or.inl ⟨by kernel_rfl, ?hy⟩) hHeld ?_
                  case hy => (intro w hSw; (try dsimp only at hSw); go_simp; try with_reducible rfl)
                  try simp only [List.setIfInBounds_toArray, List.set_cons_zero, List.set_cons_succ]
                  refine takeD 41 118 (v := ?_) rfl rfl (by kernel_rfl) (by kernel_rfl) (by kernel_rfl) (fun _ _ _ h => h) (Or.inl ⟨by kernel_rfl, ?hy⟩) hHeld ?_
                  case hy => (intro w hSw; (try dsimp only at hSw); go_simp; try with_reducible rfl)
                  try simp only [List.setIfInBounds_toArray, List.set_cons_zero, List.set_cons_succ]
                  refine takeD 42 17 (v := ?_) rfl rfl (by kernel_rfl) (by kernel_rfl) (by kernel_rfl) (fun _ _ _ h => h) (Or.inl ⟨by kernel_rfl, ?hy⟩) hHeld ?_
                  case hy => (intro w hSw; (try dsimp only at hSw); go_simp; try with_reducible rfl)
                  try simp only [List.setIfInBounds_toArray, List.set_cons_zero, List.set_cons_succ]
                  refine wpAnyH_done (by kernel_rfl) ?_ _
                  refine NoPanic.normal ?_
                  have HEf := Lib.hid hE0
                  clear hE0 p0 p1 mb kb p0_0 p0_1 p0_2 p1_0 p1_1 p1_2 mb_0 mb_1 mb_2 kb_0 kb_1 kb_2
                  go_wp2_with fail
                  go_meet
                  exact ⟨rfl, HEf⟩
              · obtain ⟨rfl, rfl, rfl, rfl, rfl, rfl, rfl⟩ := HME.out t1
                have u1 : (s1 != 0) = true := by simpa using t1
                have u2 : (s1 == 0) = false := by simpa using t1
                clear t1
                by_cases t2 : s2 = 0
                · subst t2
                  obtain ⟨rfl, hk1, hk2⟩ := HKO2.out rfl
                  replace hk1 := hk1.ext (Nat.le_refl _) hE0
                  replace hk2 := hk2.ext (Nat.le_refl _) hE0
                  skip
                  skip
                  replace mb_0 := mb.cell (i := 0) rfl
                  replace mb_1 := mb.cell (i := 1) rfl
                  replace mb_2 := mb.cell (i := 2) rfl
                  replace kb_0 := kb.cell (i := 0) rfl
                  replace kb_1 := kb.cell (i := 1) rfl
                  replace kb_2 := kb.cell (i := 2) rfl
                  refine wp_region_noPanic ?_
                  refine wp_region_held_drew (S := (fun w' => w'.cell? ⟨w.heap.size, 0, none⟩ = some (.bool b) ∧ w'.cell? ⟨w.heap.size, 1, none⟩ = some (.slice a n c) ∧ w'.cell? ⟨w.heap.size, 2, none⟩ = some (.slice a2 n2 c2) ∧ w'.cell? ⟨w.heap.size + 1, 0, none⟩ = some (.bool b') ∧ w'.cell? ⟨w.heap.size + 1, 1, none⟩ = some (.slice a' n' c') ∧ w'.cell? ⟨w.heap.size + 1, 2, none⟩ = some (.slice a2' n2' c2') ∧ w'.cell? ⟨w2.heap.size, 0, none⟩ = some (.bool false) ∧ w'.cell? ⟨w2.heap.size, 1, none⟩ = some (.slice none 0 0) ∧ w'.cell? ⟨w2.heap.size, 2, none⟩ = some (.slice none 0 0) ∧ w'.cell? ⟨w3.heap.size, 0, none⟩ = some (.bool false) ∧ w'.cell? ⟨w3.heap.size, 1, none⟩ = some (.slice ak nk ck) ∧ w'.cell? ⟨w3.heap.size, 2, none⟩ = some (.slice ak2 nk2 ck2))) (by kernel_rfl) ⟨p0_0, p0_1, p0_2, p1_0, p1_1, p1_2, mb_0, mb_1, mb_2, kb_0, kb_1, kb_2⟩ (fun hHeld => ?_)
                  refine takeD 0 77 (v := ?_) rfl rfl (by kernel_rfl) (by kernel_rfl) (by kernel_rfl) (fun _ _ _ h => h) (Or.inl ⟨by kernel_rfl, ?hy⟩) hHeld ?_
                  case hy => (intro w hSw; (try dsimp only at hSw); go_simp; try with_reducible rfl)
                  try simp only [List.setIfInBounds_toArray, List.set_cons_zero, List.set_cons_succ]
                  refine takeD 1 78 (v := ?_) rfl rfl (by kernel_rfl) (by kernel_rfl) (by kernel_rfl) (fun _ _ _ h => h) (Or.inl ⟨by kernel_rfl, ?hy⟩) hHeld ?_
                  case hy => (intro w hSw; (try dsimp only at hSw); go_simp; try with_reducible rfl)
                  try simp only [List.setIfInBounds_toArray, List.set_cons_zero, List.set_cons_succ]
                  refine takeD 2 79 (v := ?_) rfl rfl (by kernel_rfl) (by kernel_rfl) (by kernel_rfl) (fun _ _ _ h => h) (Or.inl ⟨by kernel_rfl, ?hy⟩) hHeld ?_
                  case hy => (intro w hSw; (try dsimp only at hSw); go_simp; try with_reducible rfl)
                  try simp only [List.setIfInBounds_toArray, List.set_cons_zero, List.set_cons_succ]
                  refine takeD 3 80 (v := ?_) rfl rfl (by kernel_rfl) (by kernel_rfl) (by kernel_rfl) (fun _ _ _ h => h) (Or.inl ⟨by kernel_rfl, ?hy⟩) hHeld ?_
                  case hy => (intro w hSw; (try dsimp only at hSw); go_simp; try with_reducible rfl)
                  try simp only [List.setIfInBounds_toArray, List.set_cons_zero, List.set_cons_succ]
                  refine takeD 4 81 (v := ?_) rfl rfl (by kernel_rfl) (by kernel_rfl) (by kernel_rfl) (fun _ _ _ h => h) (Or.inl ⟨by kernel_rfl, ?hy⟩) hHeld ?_
                  case hy => (intro w hSw; (try dsimp only at hSw); go_simp; try with_reducible rfl)
                  try simp only [List.setIfInBounds_toArray, List.set_cons_zero, List.set_cons_succ]
                  refine takeD 5 82 (v := ?_) rfl rfl (by kernel_rfl) (by kernel_rfl) (by kernel_rfl) (fun _ _ _ h => h) (Or.inl ⟨by kernel_rfl, ?hy⟩) hHeld ?_
                  case hy => (intro w hSw; (try dsimp only at hSw); go_simp; try with_reducible rfl)
                  try simp only [List.setIfInBounds_toArray, List.set_cons_zero, List.set_cons_succ]
                  refine stepD 6 rfl (by kernel_rfl) (fun Kc hKc => ?_)
                  refine Eq.mpr (if_pos (by kernel_rfl)) ?_
                  go_simp
                  refine (refused_yes _ s1).mono ?_; rintro e w9 ⟨rfl, hE1⟩; replace kb := kb.ext hE1; replace kb_0 := kb.cell (i := 0) rfl; replace kb_1 := kb.cell (i := 1) rfl; replace kb_2 := kb.cell (i := 2) rfl; replace kb_f0 := kb.free 0; replace kb_f1 := kb.free 1; replace kb_f2 := kb.free 2; replace kb_lt := kb.lt; replace mb := mb.ext hE1; replace mb_0 := mb.cell (i := 0) rfl; replace mb_1 := mb.cell (i := 1) rfl; replace mb_2 := mb.cell (i := 2) rfl; replace mb_f0 := mb.free 0; replace mb_f1 := mb.free 1; replace mb_f2 := mb.free 2; replace mb_lt := mb.lt; replace p0 := p0.ext hE1; replace p0_0 := p0.cell (i := 0) rfl; replace p0_1 := p0.cell (i := 1) rfl; replace p0_2 := p0.cell (i := 2) rfl; replace p0_f0 := p0.free 0; replace p0_f1 := p0.free 1; replace p0_f2 := p0.free 2; replace p0_lt := p0.lt; replace p1 := p1.ext hE1; replace p1_0 := p1.cell (i := 0) rfl; replace p1_1 := p1.cell (i := 1) rfl; replace p1_2 := p1.cell (i := 2) rfl; replace p1_f0 := p1.free 0; replace p1_f1 := p1.free 1; replace p1_f2 := p1.free 2; replace p1_lt := p1.lt; replace hk1 := hk1.ext (Nat.le_refl _) hE1; replace hk2 := hk2.ext (Nat.le_refl _) hE1; replace hE0 := Ext.trans hE0 hE1
                  go_wp2_with fail
                  refine hKc.out _ _ ⟨p0_0, p0_1, p0_2, p1_0, p1_1, p1_2, mb_0, mb_1, mb_2, kb_0, kb_1, kb_2⟩ (fun hHeld => ?_)
                  clear hKc Kc
                  try simp only [Act.put, List.setIfInBounds_toArray, List.set_cons_zero, List.set_cons_succ]
                  refine takeD 7 84 (v := ?_) rfl rfl (by kernel_rfl) (by kernel_rfl) (by kernel_rfl) (fun _ _ _ h => h) (Or.inl ⟨by kernel_rfl, ?hy⟩) hHeld ?_
                  case hy => (intro w hSw; (try dsimp only at hSw); go_simp; try with_reducible rfl)
                  try simp only [List.setIfInBounds_toArray, List.set_cons_zero, List.set_cons_succ]
                  refine takeD 8 85 (v := ?_) rfl rfl (by kernel_rfl) (by kernel_rfl) (by kernel_rfl) (fun _ _ _ h => h) (Or.inl ⟨by kernel_rfl, ?hy⟩) hHeld ?_
                  case hy => (intro w hSw; (try dsimp only at hSw); go_simp; try with_reducible rfl)
                  try simp only [List.setIfInBounds_toArray, List.set_cons_zero, List.set_cons_succ]
                  refine takeD 9 86 (v := undef) rfl rfl (by kernel_rfl) (by kernel_rfl) (by kernel_rfl) (fun _ _ _ h => h) (Or.inr ⟨by kernel_rfl, rfl⟩) hHeld ?_
                  try simp only [List.setIfInBounds_toArray, List.set_cons_zero, List.set_cons_succ]
                  refine takeD 10 87 (v := undef) rfl rfl (by kernel_rfl) (by kernel_rfl) (by kernel_rfl) (fun _ _ _ h => h) (Or.inr ⟨by kernel_rfl, rfl⟩) hHeld ?_
                  try simp only [List.setIfInBounds_toArray, List.set_cons_zero, List.set_cons_succ]
                  refine takeD 11 88 (v := undef) rfl rfl (by kernel_rfl) (by kernel_rfl) (by kernel_rfl) (fun _ _ _ h => h) (Or.inr ⟨by kernel_rfl, rfl⟩) hHeld ?_
                  try simp only [List.setIfInBounds_toArray, List.set_cons_zero, List.set_cons_succ]
                  refine takeD 12 89 (v := undef) rfl rfl (by kernel_rfl) (by kernel_rfl) (by kernel_rfl) (fun _ _ _ h => h) (Or.inr ⟨by kernel_rfl, rfl⟩) hHeld ?_
                  try simp only [List.setIfInBounds_toArray, List.set_cons_zero, List.set_cons_succ]
                  refine takeD 13 90 (v := undef) rfl rfl (by kernel_rfl) (by kernel_rfl) (by kernel_rfl) (fun _ _ _ h => h) (Or.inr ⟨by kernel_rfl, rfl⟩) hHeld ?_
                  try simp only [List.setIfInBounds_toArray, List.set_cons_zero, List.set_cons_succ]
                  refine takeD 14 91 (v := undef) rfl rfl (by kernel_rfl) (by kernel_rfl) (by kernel_rfl) (fun _ _ _ h => h) (Or.inr ⟨by kernel_rfl, rfl⟩) hHeld ?_
                  try simp only [List.setIfInBounds_toArray, List.set_cons_zero, List.set_cons_succ]
                  refine takeD 15 92 (v := undef) rfl rfl (by kernel_rfl) (by kernel_rfl) (by kernel_rfl) (fun _ _ _ h => h) (Or.inr ⟨by kernel_rfl, rfl⟩) hHeld ?_
                  try simp only [List.setIfInBounds_toArray, List.set_cons_zero, List.set_cons_succ]
                  refine skipD 16 93 rfl rfl (by kernel_rfl) (by kernel_rfl) hHeld ?_
                  try simp only [List.setIfInBounds_toArray, List.set_cons_zero, List.set_cons_succ]
                  refine skipD 17 94 rfl rfl (by kernel_rfl) (by kernel_rfl) hHeld ?_
                  try simp only [List.setIfInBounds_toArray, List.set_cons_zero, List.set_cons_succ]
                  refine takeD 18 95 (v := undef) rfl rfl (by kernel_rfl) (by kernel_rfl) (by kernel_rfl) (fun _ _ _ h => h) (Or.inr ⟨by kernel_rfl, rfl⟩) hHeld ?_
                  try simp only [List.setIfInBounds_toArray, List.set_cons_zero, List.set_cons_succ]
                  refine takeD 19 96 (v := ?_) rfl rfl (by kernel_rfl) (by kernel_rfl) (by kernel_rfl) (fun _ _ _ h => h) (Or.inl ⟨by kernel_rfl, ?hy⟩) hHeld ?_
                  case hy => (intro w hSw; (try dsimp only at hSw); go_simp; try with_reducible rfl)
                  try simp only [List.setIfInBounds_toArray, List.set_cons_zero, List.set_cons_succ]
                  refine takeD 20 97 (v := ?_) rfl rfl (by kernel_rfl) (by kernel_rfl) (by kernel_rfl) (fun _ _ _ h => h) (Or.inl ⟨by kernel_rfl, ?hy⟩) hHeld ?_
                  case hy => (intro w hSw; (try dsimp only at hSw); go_simp; try with_reducible rfl)
                  try simp only [List.setIfInBounds_toArray, List.set_cons_zero, List.set_cons_succ]
                  refine takeD 21 98 (v := ?_) rfl rfl (by kernel_rfl) (by kernel_rfl) (by kernel_rfl) (fun _ _ _ h => h) (Or.inl ⟨by kernel_rfl, ?hy⟩) hHeld ?_
                  case hy => (intro w hSw; (try dsimp only at hSw); go_simp; try with_reducible rfl)
                  try simp only [List.setIfInBounds_toArray, List.set_cons_zero, List.set_cons_succ]
                  refine takeD 22 99 (v := ?_) rfl rfl (by kernel_rfl) (by kernel_rfl) (by kernel_rfl) (fun _ _ _ h => h) (Or.inl ⟨by kernel_rfl, ?hy⟩) hHeld ?_
                  case hy => (intro w hSw; (try dsimp only at hSw); go_simp; try with_reducible rfl)
                  try simp only [List.setIfInBounds_toArray, List.set_cons_zero, List.set_cons_succ]
                  refine takeD 23 100 (v := ?_) rfl rfl (by kernel_rfl) (by kernel_rfl) (by kernel_rfl) (fun _ _ _ h => h) (Or.inl ⟨by kernel_rfl, ?hy⟩) hHeld ?_
                  case hy => (intro w hSw; (try dsimp only at hSw); go_simp; try with_reducible rfl)
                  try simp only [List.setIfInBounds_toArray, List.set_cons_zero, List.set_cons_succ]
                  refine takeD 24 101 (v := undef) rfl rfl (by kernel_rfl) (by kernel_rfl) (by kernel_rfl) (fun _ _ _ h => h) (Or.inr ⟨by kernel_rfl, rfl⟩) hHeld ?_
                  try simp only [List.setIfInBounds_toArray, List.set_cons_zero, List.set_cons_succ]
                  refine takeD 25 102 (v := undef) rfl rfl (by kernel_rfl) (by kernel_rfl) (by kernel_rfl) (fun _ _ _ h => h) (Or.inr ⟨by kernel_rfl, rfl⟩) hHeld ?_
                  try simp only [List.setIfInBounds_toArray, List.set_cons_zero, List.set_cons_succ]
                  refine takeD 26 103 (v := undef) rfl rfl (by kernel_rfl) (by kernel_rfl) (by kernel_rfl) (fun _ _ _ h => h) (Or.inr ⟨by kernel_rfl, rfl⟩) hHeld ?_
                  try simp only [List.setIfInBounds_toArray, List.set_cons_zero, List.set_cons_succ]
                  refine skipD 27 104 rfl rfl (by kernel_rfl) (by kernel_rfl) hHeld ?_
                  try simp only [List.setIfInBounds_toArray, List.set_cons_zero, List.set_cons_succ]
                  refine takeD 28 105 (v := ?_) rfl rfl (by kernel_rfl) (by kernel_rfl) (by kernel_rfl) (fun _ _ _ h => h) (Or.inl ⟨by kernel_rfl, ?hy⟩) hHeld ?_
                  case hy => (intro w hSw; (try dsimp only at hSw); go_simp; try with_reducible rfl)
                  try simp only [List.setIfInBounds_toArray, List.set_cons_zero, List.set_cons_succ]
                  refine takeD 29 106 (v := ?_) rfl rfl (by kernel_rfl) (by kernel_rfl) (by kernel_rfl) (fun _ _ _ h => h) (Or.inl ⟨by kernel_rfl, ?hy⟩) hHeld ?_
                  case hy => (intro w hSw; (try dsimp only at hSw); go_simp; try with_reducible rfl)
                  try simp only [List.setIfInBounds_toArray, List.set_cons_zero, List.set_cons_succ]
                  refine takeD 30 107 (v := ?_) rfl rfl (by kernel_rfl) (by kernel_rfl) (by kernel_rfl) (fun _ _ _ h => h) (Or.inl ⟨by kernel_rfl, ?hy⟩) hHeld ?_
                  case hy => (intro w hSw; (try dsimp only at hSw); go_simp; try with_reducible rfl)
                  try simp only [List.setIfInBounds_toArray, List.set_cons_zero, List.set_cons_succ]
                  refine takeD 31 108 (v := ?_) rfl rfl (by kernel_rfl) (by kernel_rfl) (by kernel_rfl) (fun _ _ _ h => h) (Or.inl ⟨by kernel_rfl, ?hy⟩) hHeld ?_
                  case hy => (intro w hSw; (try dsimp only at hSw); go_simp; try with_reducible rfl)
                  try simp only [List.setIfInBounds_toArray, List.set_cons_zero, List.set_cons_succ]
                  refine takeD 32 109 (v := ?_) rfl rfl (by kernel_rfl) (by kernel_rfl) (by kernel_rfl) (fun _ _ _ h => h) (Or.inl ⟨by kernel_rfl, ?hy⟩) hHeld ?_
                  case hy => (intro w hSw; (try dsimp only at hSw); go_simp; try with_reducible rfl)
                  try simp only [List.setIfInBounds_toArray, List.set_cons_zero, List.set_cons_succ]
                  refine takeD 33 110 (v := ?_) rfl rfl (by kernel_rfl) (by kernel_rfl) (by kernel_rfl) (fun _ _ _ h => h) (Or.inl ⟨by kernel_rfl, ?hy⟩) hHeld ?_
                  case hy => (intro w hSw; (try dsimp only at hSw); go_simp; try with_reducible rfl)
                  try simp only [List.setIfInBounds_toArray, List.set_cons_zero, List.set_cons_succ]
                  refine takeD 34 111 (v := ?_) rfl rfl (by kernel_rfl) (by kernel_rfl) (by kernel_rfl) (fun _ _ _ h => h) (Or.inl ⟨by kernel_rfl, ?hy⟩) hHeld ?_
                  case hy => (intro w hSw; (try dsimp only at hSw); go_simp; try with_reducible rfl)
                  try simp only [List.setIfInBounds_toArray, List.set_cons_zero, List.set_cons_succ]
                  refine takeD 35 112 (v := ?_) rfl rfl (by kernel_rfl) (by kernel_rfl) (by kernel_rfl) (fun _ _ _ h => h) (Or.inl ⟨by kernel_rfl, ?hy⟩) hHeld ?_
                  case hy => (intro w hSw; (try dsimp only at hSw); go_simp; try with_reducible rfl)
                  try simp only [List.setIfInBounds_toArray, List.set_cons_zero, List.set_cons_succ]
                  refine takeD 36 113 (v := ?_) rfl rfl (by kernel_rfl) (by kernel_rfl) (by kernel_rfl) (fun _ _ _ h => h) (Or.inl ⟨by kernel_rfl, ?hy⟩) hHeld ?_
                  case hy => (intro w hSw; (try dsimp only at hSw); go_simp; try with_reducible rfl)
                  try simp only [List.setIfInBounds_toArray, List.set_cons_zero, List.set_cons_succ]
                  refine stepD 37 rfl (by kernel_rfl) (fun Kc hKc => ?_)
                  refine Eq.mpr (if_pos (by kernel_rfl)) ?_
                  go_simp
                  refine (r11Kron_ref K hK _ b a a2 n c n2 c2 x (HXL.out.ext hE0) b' a' a2' n' c' n2' c2' y (HYL.out.ext hE0) HS2 hn2 hn2' HCX.out HCY.out qk HQK).mono ?_; rintro e w10 ⟨a9, n9, c9, a10, n10, c10, rfl, g3, g4, hE1⟩; replace kb := kb.ext hE1; replace kb_0 := kb.cell (i := 0) rfl; replace kb_1 := kb.cell (i := 1) rfl; replace kb_2 := kb.cell (i := 2) rfl; replace kb_f0 := kb.free 0; replace kb_f1 := kb.free 1; replace kb_f2 := kb.free 2; replace kb_lt := kb.lt; replace mb := mb.ext hE1; replace mb_0 := mb.cell (i := 0) rfl; replace mb_1 := mb.cell (i := 1) rfl; replace mb_2 := mb.cell (i := 2) rfl; replace mb_f0 := mb.free 0; replace mb_f1 := mb.free 1; replace mb_f2 := mb.free 2; replace mb_lt := mb.lt; replace p0 := p0.ext hE1; replace p0_0 := p0.cell (i := 0) rfl; replace p0_1 := p0.cell (i := 1) rfl; replace p0_2 := p0.cell (i := 2) rfl; replace p0_f0 := p0.free 0; replace p0_f1 := p0.free 1; replace p0_f2 := p0.free 2; replace p0_lt := p0.lt; replace p1 := p1.ext hE1; replace p1_0 := p1.cell (i := 0) rfl; replace p1_1 := p1.cell (i := 1) rfl; replace p1_2 := p1.cell (i := 2) rfl; replace p1_f0 := p1.free 0; replace p1_f1 := p1.free 1; replace p1_f2 := p1.free 2; replace p1_lt := p1.lt; replace hk1 := hk1.ext (Nat.le_refl _) hE1; replace hk2 := hk2.ext (Nat.le_refl _) hE1; replace hE0 := Ext.trans hE0 hE1
                  go_wp2_with fail
                  refine hKc.out _ _ ⟨p0_0, p0_1, p0_2, p1_0, p1_1, p1_2, mb_0, mb_1, mb_2, kb_0, kb_1, kb_2⟩ (fun hHeld => ?_)
                  clear hKc Kc
                  try simp only [Act.put, List.setIfInBounds_toArray, List.set_cons_zero, List.set_cons_succ]
                  refine stepD 38 rfl (by kernel_rfl) (fun Kc hKc => ?_)
                  refine Eq.mpr (if_pos (by kernel_rfl)) ?_
                  go_simp
                  refine (right_yes _ false ak a9 ak2 a10 nk ck n9 c9 nk2 ck2 n10 c10 _ _ hk1 g3 hk2 g4).mono ?_; rintro e w11 ⟨rfl, hE1⟩; replace kb := kb.ext hE1; replace kb_0 := kb.cell (i := 0) rfl; replace kb_1 := kb.cell (i := 1) rfl; replace kb_2 := kb.cell (i := 2) rfl; replace kb_f0 := kb.free 0; replace kb_f1 := kb.free 1; replace kb_f2 := kb.free 2; replace kb_lt := kb.lt; replace mb := mb.ext hE1; replace mb_0 := mb.cell (i := 0) rfl; replace mb_1 := mb.cell (i := 1) rfl; replace mb_2 := mb.cell (i := 2) rfl; replace mb_f0 := mb.free 0; replace mb_f1 := mb.free 1; replace mb_f2 := mb.free 2; replace mb_lt := mb.lt; replace p0 := p0.ext hE1; replace p0_0 := p0.cell (i := 0) rfl; replace p0_1 := p0.cell (i := 1) rfl; replace p0_2 := p0.cell (i := 2) rfl; replace p0_f0 := p0.free 0; replace p0_f1 := p0.free 1; replace p0_f2 := p0.free 2; replace p0_lt := p0.lt; replace p1 := p1.ext hE1; replace p1_0 := p1.cell (i := 0) rfl; replace p1_1 := p1.cell (i := 1) rfl; replace p1_2 := p1.cell (i := 2) rfl; replace p1_f0 := p1.free 0; replace p1_f1 := p1.free 1; replace p1_f2 := p1.free 2; replace p1_lt := p1.lt; replace hE0 := Ext.trans hE0 hE1
                  go_wp2_with fail
                  refine hKc.out _ _ ⟨p0_0, p0_1, p0_2, p1_0, p1_1, p1_2, mb_0, mb_1, mb_2, kb_0, kb_1, kb_2⟩ (fun hHeld => ?_)
                  clear hKc Kc
                  try simp only [Act.put, List.setIfInBounds_toArray, List.set_cons_zero, List.set_cons_succ]
                  refine takeD 39 116 (v := ?_) rfl rfl (by kernel_rfl) (by kernel_rfl) (by kernel_rfl) (fun _ _ _ h => h) (Or.inl ⟨by kernel_rfl, ?hy⟩) hHeld ?_
                  case hy => (intro w hSw; (try dsimp only at hSw); go_simp; try with_reducible rfl)
                  try simp only [List.setIfInBounds_toArray, List.set_cons_zero, List.set_cons_succ]
                  refine takeD 40 117 (v := ?_) rfl rfl (by kernel_rfl) (by kernel_rfl) (by kernel_rfl) (fun _ _ _ h => h) (Or.inl ⟨by kernel_rfl, ?hy⟩) hHeld ?_
                  case hy => (intro w hSw; (try dsimp only at hSw); go_simp; try with_reducible rfl)
                  try simp only [List.setIfInBounds_toArray, List.set_cons_zero, List.set_cons_succ]
                  refine takeD 41 118 (v := ?_) rfl rfl (by kernel_rfl) (by kernel_rfl) (by kernel_rfl) (fun _ _ _ h => h) (Or.inl ⟨by kernel_rfl, ?hy⟩) hHeld ?_
                  case hy => (intro w hSw; (try dsimp only at hSw); go_simp; try with_reducible rfl)
                  try simp only [List.setIfInBounds_toArray, List.set_cons_zero, List.set_cons_succ]
                  refine takeD 42 17 (v := ?_) rfl rfl (by kernel_rfl) (by kernel_rfl) (by kernel_rfl) (fun _ _ _ h => h) (Or.inl ⟨by kernel_rfl, ?hy⟩) hHeld ?_
                  case hy => (intro w hSw; (try dsimp only at hSw); go_simp; try with_reducible rfl)
                  try simp only [List.setIfInBounds_toArray, List.set_cons_zero, List.set_cons_succ]
                  refine wpAnyH_done (by kernel_rfl) ?_ _
                  refine NoPanic.normal ?_
                  have HEf := Lib.hid hE0
                  clear hE0 p0 p1 mb kb p0_0 p0_1 p0_2 p1_0 p1_1 p1_2 mb_0 mb_1 mb_2 kb_0 kb_1 kb_2
                  go_wp2_with fail
                  go_meet
                  exact ⟨rfl, HEf⟩
                · obtain ⟨rfl, rfl, rfl, rfl, rfl, rfl, rfl⟩ := HKE.out t2
                  have u3 : (s2 != 0) = true := by simpa using t2
                  have u4 : (s2 == 0) = false := by simpa using t2
                  clear t2
                  skip
                  skip
                  replace mb_0 := mb.cell (i := 0) rfl
                  replace mb_1 := mb.cell (i := 1) rfl
                  replace mb_2 := mb.cell (i := 2) rfl
                  replace kb_0 := kb.cell (i := 0) rfl
                  replace kb_1 := kb.cell (i := 1) rfl
                  replace kb_2 := kb.cell (i := 2) rfl
                  refine wp_region_noPanic ?_
                  refine wp_region_held_drew (S := (fun w' => w'.cell? ⟨w.heap.size, 0, none⟩ = some (.bool b) ∧ w'.cell? ⟨w.heap.size, 1, none⟩ = some (.slice a n c) ∧ w'.cell? ⟨w.heap.size, 2, none⟩ = some (.slice a2 n2 c2) ∧ w'.cell? ⟨w.heap.size + 1, 0, none⟩ = some (.bool b') ∧ w'.cell? ⟨w.heap.size + 1, 1, none⟩ = some (.slice a' n' c') ∧ w'.cell? ⟨w.heap.size + 1, 2, none⟩ = some (.slice a2' n2' c2') ∧ w'.cell? ⟨w2.heap.size, 0, none⟩ = some (.bool false) ∧ w'.cell? ⟨w2.heap.size, 1, none⟩ = some (.slice none 0 0) ∧ w'.cell? ⟨w2.heap.size, 2, none⟩ = some (.slice none 0 0) ∧ w'.cell? ⟨w3.heap.size, 0, none⟩ = some (.bool false) ∧ w'.cell? ⟨w3.heap.size, 1, none⟩ = some (.slice none 0 0) ∧ w'.cell? ⟨w3.heap.size, 2, none⟩ = some (.slice none 0 0))) (by kernel_rfl) ⟨p0_0, p0_1, p0_2, p1_0, p1_1, p1_2, mb_0, mb_1, mb_2, kb_0, kb_1, kb_2⟩ (fun hHeld => ?_)
                  refine takeD 0 77 (v := ?_) rfl rfl (by kernel_rfl) (by kernel_rfl) (by kernel_rfl) (fun _ _ _ h => h) (Or.inl ⟨by kernel_rfl, ?hy⟩) hHeld ?_
                  case hy => (intro w hSw; (try dsimp only at hSw); go_simp; try with_reducible rfl)
                  try simp only [List.setIfInBounds_toArray, List.set_cons_zero, List.set_cons_succ]
                  refine takeD 1 78 (v := ?_) rfl rfl (by kernel_rfl) (by kernel_rfl) (by kernel_rfl) (fun _ _ _ h => h) (Or.inl ⟨by kernel_rfl, ?hy⟩) hHeld ?_
                  case hy => (intro w hSw; (try dsimp only at hSw); go_simp; try with_reducible rfl)
                  try simp only [List.setIfInBounds_toArray, List.set_cons_zero, List.set_cons_succ]
                  refine takeD 2 79 (v := ?_) rfl rfl (by kernel_rfl) (by kernel_rfl) (by kernel_rfl) (fun _ _ _ h => h) (Or.inl ⟨by kernel_rfl, ?hy⟩) hHeld ?_
                  case hy => (intro w hSw; (try dsimp only at hSw); go_simp; try with_reducible rfl)
                  try simp only [List.setIfInBounds_toArray, List.set_cons_zero, List.set_cons_succ]
                  refine takeD 3 80 (v := ?_) rfl rfl (by kernel_rfl) (by kernel_rfl) (by kernel_rfl) (fun _ _ _ h => h) (Or.inl ⟨by kernel_rfl, ?hy⟩) hHeld ?_
                  case hy => (intro w hSw; (try dsimp only at hSw); go_simp; try with_reducible rfl)
                  try simp only [List.setIfInBounds_toArray, List.set_cons_zero, List.set_cons_succ]
                  refine takeD 4 81 (v := ?_) rfl rfl (by kernel_rfl) (by kernel_rfl) (by kernel_rfl) (fun _ _ _ h => h) (Or.inl ⟨by kernel_rfl, ?hy⟩) hHeld ?_
                  case hy => (intro w hSw; (try dsimp only at hSw); go_simp; try with_reducible rfl)
                  try simp only [List.setIfInBounds_toArray, List.set_cons_zero, List.set_cons_succ]
                  refine takeD 5 82 (v := ?_) rfl rfl (by kernel_rfl) (by kernel_rfl) (by kernel_rfl) (fun _ _ _ h => h) (Or.inl ⟨by kernel_rfl, ?hy⟩) hHeld ?_
                  case hy => (intro w hSw; (try dsimp only at hSw); go_simp; try with_reducible rfl)
                  try simp only [List.setIfInBounds_toArray, List.set_cons_zero, List.set_cons_succ]
                  refine stepD 6 rfl (by kernel_rfl) (fun Kc hKc => ?_)
                  refine Eq.mpr (if_pos (by kernel_rfl)) ?_
                  go_simp
                  refine (refused_yes _ s1).mono ?_; rintro e w9 ⟨rfl, hE1⟩; replace kb := kb.ext hE1; replace kb_0 := kb.cell (i := 0) rfl; replace kb_1 := kb.cell (i := 1) rfl; replace kb_2 := kb.cell (i := 2) rfl; replace kb_f0 := kb.free 0; replace kb_f1 := kb.free 1; replace kb_f2 := kb.free 2; replace kb_lt := kb.lt; replace mb := mb.ext hE1; replace mb_0 := mb.cell (i := 0) rfl; replace mb_1 := mb.cell (i := 1) rfl; replace mb_2 := mb.cell (i := 2) rfl; replace mb_f0 := mb.free 0; replace mb_f1 := mb.free 1; replace mb_f2 := mb.free 2; replace mb_lt := mb.lt; replace p0 := p0.ext hE1; replace p0_0 := p0.cell (i := 0) rfl; replace p0_1 := p0.cell (i := 1) rfl; replace p0_2 := p0.cell (i := 2) rfl; replace p0_f0 := p0.free 0; replace p0_f1 := p0.free 1; replace p0_f2 := p0.free 2; replace p0_lt := p0.lt; replace p1 := p1.ext hE1; replace p1_0 := p1.cell (i := 0) rfl; replace p1_1 := p1.cell (i := 1) rfl; replace p1_2 := p1.cell (i := 2) rfl; replace p1_f0 := p1.free 0; replace p1_f1 := p1.free 1; replace p1_f2 := p1.free 2; replace p1_lt := p1.lt; replace hE0 := Ext.trans hE0 hE1
                  go_wp2_with fail
                  refine hKc.out _ _ ⟨p0_0, p0_1, p0_2, p1_0, p1_1, p1_2, mb_0, mb_1, mb_2, kb_0, kb_1, kb_2⟩ (fun hHeld => ?_)
                  clear hKc Kc
                  try simp only [Act.put, List.setIfInBounds_toArray, List.set_cons_zero, List.set_cons_succ]
                  refine takeD 7 84 (v := ?_) rfl rfl (by kernel_rfl) (by kernel_rfl) (by kernel_rfl) (fun _ _ _ h => h) (Or.inl ⟨by kernel_rfl, ?hy⟩) hHeld ?_
                  case hy => (intro w hSw; (try dsimp only at hSw); go_simp; try with_reducible rfl)
                  try simp only [List.setIfInBounds_toArray, List.set_cons_zero, List.set_cons_succ]
                  refine takeD 8 85 (v := ?_) rfl rfl (by kernel_rfl) (by kernel_rfl) (by kernel_rfl) (fun _ _ _ h => h) (Or.inl ⟨by kernel_rfl, ?hy⟩) hHeld ?_
                  case hy => (intro w hSw; (try dsimp only at hSw); go_simp; try with_reducible rfl)
                  try simp only [List.setIfInBounds_toArray, List.set_cons_zero, List.set_cons_succ]
                  refine takeD 9 86 (v := undef) rfl rfl (by kernel_rfl) (by kernel_rfl) (by kernel_rfl) (fun _ _ _ h => h) (Or.inr ⟨by kernel_rfl, rfl⟩) hHeld ?_
                  try simp only [List.setIfInBounds_toArray, List.set_cons_zero, List.set_cons_succ]
                  refine takeD 10 87 (v := undef) rfl rfl (by kernel_rfl) (by kernel_rfl) (by kernel_rfl) (fun _ _ _ h => h) (Or.inr ⟨by kernel_rfl, rfl⟩) hHeld ?_
                  try simp only [List.setIfInBounds_toArray, List.set_cons_zero, List.set_cons_succ]
                  refine takeD 11 88 (v := undef) rfl rfl (by kernel_rfl) (by kernel_rfl) (by kernel_rfl) (fun _ _ _ h => h) (Or.inr ⟨by kernel_rfl, rfl⟩) hHeld ?_
                  try simp only [List.setIfInBounds_toArray, List.set_cons_zero, List.set_cons_succ]
                  refine takeD 12 89 (v := undef) rfl rfl (by kernel_rfl) (by kernel_rfl) (by kernel_rfl) (fun _ _ _ h => h) (Or.inr ⟨by kernel_rfl, rfl⟩) hHeld ?_
                  try simp only [List.setIfInBounds_toArray, List.set_cons_zero, List.set_cons_succ]
                  refine takeD 13 90 (v := undef) rfl rfl (by kernel_rfl) (by kernel_rfl) (by kernel_rfl) (fun _ _ _ h => h) (Or.inr ⟨by kernel_rfl, rfl⟩) hHeld ?_
                  try simp only [List.setIfInBounds_toArray, List.set_cons_zero, List.set_cons_succ]
                  refine takeD 14 91 (v := undef) rfl rfl (by kernel_rfl) (by kernel_rfl) (by kernel_rfl) (fun _ _ _ h => h) (Or.inr ⟨by kernel_rfl, rfl⟩) hHeld ?_
                  try simp only [List.setIfInBounds_toArray, List.set_cons_zero, List.set_cons_succ]
                  refine takeD 15 92 (v := undef) rfl rfl (by kernel_rfl) (by kernel_rfl) (by kernel_rfl) (fun _ _ _ h => h) (Or.inr ⟨by kernel_rfl, rfl⟩) hHeld ?_
                  try simp only [List.setIfInBounds_toArray, List.set_cons_zero, List.set_cons_succ]
                  refine skipD 16 93 rfl rfl (by kernel_rfl) (by kernel_rfl) hHeld ?_
                  try simp only [List.setIfInBounds_toArray, List.set_cons_zero, List.set_cons_succ]
                  refine skipD 17 94 rfl rfl (by kernel_rfl) (by kernel_rfl) hHeld ?_
                  try simp only [List.setIfInBounds_toArray, List.set_cons_zero, List.set_cons_succ]
                  refine takeD 18 95 (v := undef) rfl rfl (by kernel_rfl) (by kernel_rfl) (by kernel_rfl) (fun _ _ _ h => h) (Or.inr ⟨by kernel_rfl, rfl⟩) hHeld ?_
                  try simp only [List.setIfInBounds_toArray, List.set_cons_zero, List.set_cons_succ]
                  refine takeD 19 96 (v := ?_) rfl rfl (by kernel_rfl) (by kernel_rfl) (by kernel_rfl) (fun _ _ _ h => h) (Or.inl ⟨by kernel_rfl, ?hy⟩) hHeld ?_
                  case hy => (intro w hSw; (try dsimp only at hSw); go_simp; try with_reducible rfl)
                  try simp only [List.setIfInBounds_toArray, List.set_cons_zero, List.set_cons_succ]
                  refine takeD 20 97 (v := ?_) rfl rfl (by kernel_rfl) (by kernel_rfl) (by kernel_rfl) (fun _ _ _ h => h) (Or.inl ⟨by kernel_rfl, ?hy⟩) hHeld ?_
                  case hy => (intro w hSw; (try dsimp only at hSw); go_simp; try with_reducible rfl)
                  try simp only [List.setIfInBounds_toArray, List.set_cons_zero, List.set_cons_succ]
                  refine takeD 21 98 (v := ?_) rfl rfl (by kernel_rfl) (by kernel_rfl) (by kernel_rfl) (fun _ _ _ h => h) (Or.inl ⟨by kernel_rfl, ?hy⟩) hHeld ?_
                  case hy => (intro w hSw; (try dsimp only at hSw); go_simp; try with_reducible rfl)
                  try simp only [List.setIfInBounds_toArray, List.set_cons_zero, List.set_cons_succ]
                  refine takeD 22 99 (v := ?_) rfl rfl (by kernel_rfl) (by kernel_rfl) (by kernel_rfl) (fun _ _ _ h => h) (Or.inl ⟨by kernel_rfl, ?hy⟩) hHeld ?_
                  case hy => (intro w hSw; (try dsimp only at hSw); go_simp; try with_reducible rfl)
                  try simp only [List.setIfInBounds_toArray, List.set_cons_zero, List.set_cons_succ]
                  refine takeD 23 100 (v := ?_) rfl rfl (by kernel_rfl) (by kernel_rfl) (by kernel_rfl) (fun _ _ _ h => h) (Or.inl ⟨by kernel_rfl, ?hy⟩) hHeld ?_
                  case hy => (intro w hSw; (try dsimp only at hSw); go_simp; try with_reducible rfl)
                  try simp only [List.setIfInBounds_toArray, List.set_cons_zero, List.set_cons_succ]
                  refine takeD 24 101 (v := ?_) rfl rfl (by kernel_rfl) (by kernel_rfl) (by kernel_rfl) (fun _ _ _ h => h) (Or.inl ⟨by kernel_rfl, ?hy⟩) hHeld ?_
                  case hy => (intro w hSw; (try dsimp only at hSw); go_simp; try with_reducible rfl)
                  try simp only [List.setIfInBounds_toArray, List.set_cons_zero, List.set_cons_succ]
                  refine takeD 25 102 (v := ?_) rfl rfl (by kernel_rfl) (by kernel_rfl) (by kernel_rfl) (fun _ _ _ h => h) (Or.inl ⟨by kernel_rfl, ?hy⟩) hHeld ?_
                  case hy => (intro w hSw; (try dsimp only at hSw); go_simp; try with_reducible rfl)
                  try simp only [List.setIfInBounds_toArray, List.set_cons_zero, List.set_cons_succ]
                  refine takeD 26 103 (v := ?_) rfl rfl (by kernel_rfl) (by kernel_rfl) (by kernel_rfl) (fun _ _ _ h => h) (Or.inl ⟨by kernel_rfl, ?hy⟩) hHeld ?_
                  case hy => (intro w hSw; (try dsimp only at hSw); go_simp; try with_reducible rfl)
                  try simp only [List.setIfInBounds_toArray, List.set_cons_zero, List.set_cons_succ]
                  refine stepD 27 rfl (by kernel_rfl) (fun Kc hKc => ?_)
                  refine Eq.mpr (if_pos (by kernel_rfl)) ?_
                  go_simp
                  refine (refused_yes _ s2).mono ?_; rintro e w9 ⟨rfl, hE1⟩; replace kb := kb.ext hE1; replace kb_0 := kb.cell (i := 0) rfl; replace kb_1 := kb.cell (i := 1) rfl; replace kb_2 := kb.cell (i := 2) rfl; replace kb_f0 := kb.free 0; replace kb_f1 := kb.free 1; replace kb_f2 := kb.free 2; replace kb_lt := kb.lt; replace mb := mb.ext hE1; replace mb_0 := mb.cell (i := 0) rfl; replace mb_1 := mb.cell (i := 1) rfl; replace mb_2 := mb.cell (i := 2) rfl; replace mb_f0 := mb.free 0; replace mb_f1 := mb.free 1; replace mb_f2 := mb.free 2; replace mb_lt := mb.lt; replace p0 := p0.ext hE1; replace p0_0 := p0.cell (i := 0) rfl; replace p0_1 := p0.cell (i := 1) rfl; replace p0_2 := p0.cell (i := 2) rfl; replace p0_f0 := p0.free 0; replace p0_f1 := p0.free 1; replace p0_f2 := p0.free 2; replace p0_lt := p0.lt; replace p1 := p1.ext hE1; replace p1_0 := p1.cell (i := 0) rfl; replace p1_1 := p1.cell (i := 1) rfl; replace p1_2 := p1.cell (i := 2) rfl; replace p1_f0 := p1.free 0; replace p1_f1 := p1.free 1; replace p1_f2 := p1.free 2; replace p1_lt := p1.lt; replace hE0 := Ext.trans hE0 hE1
                  go_wp2_with fail
                  refine hKc.out _ _ ⟨p0_0, p0_1, p0_2, p1_0, p1_1, p1_2, mb_0, mb_1, mb_2, kb_0, kb_1, kb_2⟩ (fun hHeld => ?_)
                  clear hKc Kc
                  try simp only [Act.put, List.setIfInBounds_toArray, List.set_cons_zero, List.set_cons_succ]
                  refine takeD 28 105 (v := ?_) rfl rfl (by kernel_rfl) (by kernel_rfl) (by kernel_rfl) (fun _ _ _ h => h) (Or.inl ⟨by kernel_rfl, ?hy⟩) hHeld ?_
                  case hy => (intro w hSw; (try dsimp only at hSw); go_simp; try with_reducible rfl)
                  try simp only [List.setIfInBounds_toArray, List.set_cons_zero, List.set_cons_succ]
                  refine takeD 29 106 (v := ?_) rfl rfl (by kernel_rfl) (by kernel_rfl) (by kernel_rfl) (fun _ _ _ h => h) (Or.inl ⟨by kernel_rfl, ?hy⟩) hHeld ?_
                  case hy => (intro w hSw; (try dsimp only at hSw); go_simp; try with_reducible rfl)
                  try simp only [List.setIfInBounds_toArray, List.set_cons_zero, List.set_cons_succ]
                  refine takeD 30 107 (v := undef) rfl rfl (by kernel_rfl) (by kernel_rfl) (by kernel_rfl) (fun _ _ _ h => h) (Or.inr ⟨by kernel_rfl, rfl⟩) hHeld ?_
                  try simp only [List.setIfInBounds_toArray, List.set_cons_zero, List.set_cons_succ]
                  refine takeD 31 108 (v := undef) rfl rfl (by kernel_rfl) (by kernel_rfl) (by kernel_rfl) (fun _ _ _ h => h) (Or.inr ⟨by kernel_rfl, rfl⟩) hHeld ?_
                  try simp only [List.setIfInBounds_toArray, List.set_cons_zero, List.set_cons_succ]
                  refine takeD 32 109 (v := undef) rfl rfl (by kernel_rfl) (by kernel_rfl) (by kernel_rfl) (fun _ _ _ h => h) (Or.inr ⟨by kernel_rfl, rfl⟩) hHeld ?_
                  try simp only [List.setIfInBounds_toArray, List.set_cons_zero, List.set_cons_succ]
                  refine takeD 33 110 (v := undef) rfl rfl (by kernel_rfl) (by kernel_rfl) (by kernel_rfl) (fun _ _ _ h => h) (Or.inr ⟨by kernel_rfl, rfl⟩) hHeld ?_
                  try simp only [List.setIfInBounds_toArray, List.set_cons_zero, List.set_cons_succ]
                  refine takeD 34 111 (v := undef) rfl rfl (by kernel_rfl) (by kernel_rfl) (by kernel_rfl) (fun _ _ _ h => h) (Or.inr ⟨by kernel_rfl, rfl⟩) hHeld ?_
                  try simp only [List.setIfInBounds_toArray, List.set_cons_zero, List.set_cons_succ]
                  refine takeD 35 112 (v := undef) rfl rfl (by kernel_rfl) (by kernel_rfl) (by kernel_rfl) (fun _ _ _ h => h) (Or.inr ⟨by kernel_rfl, rfl⟩) hHeld ?_
                  try simp only [List.setIfInBounds_toArray, List.set_cons_zero, List.set_cons_succ]
                  refine takeD 36 113 (v := undef) rfl rfl (by kernel_rfl) (by kernel_rfl) (by kernel_rfl) (fun _ _ _ h => h) (Or.inr ⟨by kernel_rfl, rfl⟩) hHeld ?_
                  try simp only [List.setIfInBounds_toArray, List.set_cons_zero, List.set_cons_succ]
                  refine skipD 37 114 rfl rfl (by kernel_rfl) (by kernel_rfl) hHeld ?_
                  try simp only [List.setIfInBounds_toArray, List.set_cons_zero, List.set_cons_succ]
                  refine skipD 38 115 rfl rfl (by kernel_rfl) (by kernel_rfl) hHeld ?_
                  try simp only [List.setIfInBounds_toArray, List.set_cons_zero, List.set_cons_succ]
                  refine takeD 39 116 (v := undef) rfl rfl (by kernel_rfl) (by kernel_rfl) (by kernel_rfl) (fun _ _ _ h => h) (Or.inr ⟨by kernel_rfl, rfl⟩) hHeld ?_
                  try simp only [List.setIfInBounds_toArray, List.set_cons_zero, List.set_cons_succ]
                  refine takeD 40 117 (v := ?_) rfl rfl (by kernel_rfl) (by kernel_rfl) (by kernel_rfl) (fun _ _ _ h => h) (Or.inl ⟨by kernel_rfl, ?hy⟩) hHeld ?_
                  case hy => (intro w hSw; (try dsimp only at hSw); go_simp; try with_reducible rfl)
                  try simp only [List.setIfInBounds_toArray, List.set_cons_zero, List.set_cons_succ]
                  refine takeD 41 118 (v := ?_) rfl rfl (by kernel_rfl) (by kernel_rfl) (by kernel_rfl) (fun _ _ _ h => h) (Or.inl ⟨by kernel_rfl, ?hy⟩) hHeld ?_
                  case hy => (intro w hSw; (try dsimp only at hSw); go_simp; try with_reducible rfl)
                  try simp only [List.setIfInBounds_toArray, List.set_cons_zero, List.set_cons_succ]
                  refine takeD 42 17 (v := ?_) rfl rfl (by kernel_rfl) (by kernel_rfl) (by kernel_rfl) (fun _ _ _ h => h) (Or.inl ⟨by kernel_rfl, ?hy⟩) hHeld ?_
                  case hy => (intro w hSw; (try dsimp only at hSw); go_simp; try with_reducible rfl)
                  try simp only [List.setIfInBounds_toArray, List.set_cons_zero, List.set_cons_succ]
                  refine wpAnyH_done (by kernel_rfl) ?_ _
                  refine NoPanic.normal ?_
                  have HEf := Lib.hid hE0
                  clear hE0 p0 p1 mb kb p0_0 p0_1 p0_2 p1_0 p1_1 p1_2 mb_0 mb_1 mb_2 kb_0 kb_1 kb_2
                  go_wp2_with fail
                  go_meet
                  exact ⟨rfl, HEf⟩
            case rest =>
              obtain ⟨rfl, HEz⟩ := hcut
              obtain ⟨w8, rfl⟩ : ∃ x : World, x = wc := ⟨_, rfl⟩
              have hEz := HEz.out
              have p0 := HP0.out.ext hEz
              have p1 := HP1.out.ext hEz
              have qa := HQA.out.ext hEz
              have qb := HQB.out.ext hEz
              replace p0_0 := p0.cell (i := 0) rfl
              replace p0_1 := p0.cell (i := 1) rfl
              replace p0_2 := p0.cell (i := 2) rfl
              replace p1_0 := p1.cell (i := 0) rfl
              replace p1_1 := p1.cell (i := 1) rfl
              replace p1_2 := p1.cell (i := 2) rfl
              replace qa_0 := qa.cell (i := 0) rfl
              replace qa_1 := qa.cell (i := 1) rfl
              replace qa_2 := qa.cell (i := 2) rfl
              replace qb_0 := qb.cell (i := 0) rfl
              replace qb_1 := qb.cell (i := 1) rfl
              replace qb_2 := qb.cell (i := 2) rfl
              have HEq := Lib.hid (Ext.trans HEb.out (Ext.trans HEc.out (Ext.trans HEd.out hEz)))
              have HEr := Lib.hid (Ext.trans HEa.out HEq.out)
              clear HMO2 HKO2 HME HKE hEz
              go_wp2_with fail
              (with_reducible refine (same_yes w8 b a3 a a4 a2 n c3 n c n2 c4 n2 c2 l xss (HP.out.ext HEq.out).nat (HX.out.ext HEr.out).nat (HP.out.ext HEq.out).rows (HX.out.ext HEr.out).rows).mono ?_)
              rintro e w9 ⟨rfl, hE9⟩
              replace p0 := p0.ext hE9; replace p0_0 := p0.cell (i := 0) rfl; replace p0_1 := p0.cell (i := 1) rfl; replace p0_2 := p0.cell (i := 2) rfl; replace p1 := p1.ext hE9; replace p1_0 := p1.cell (i := 0) rfl; replace p1_1 := p1.cell (i := 1) rfl; replace p1_2 := p1.cell (i := 2) rfl; replace qa := qa.ext hE9; replace qa_0 := qa.cell (i := 0) rfl; replace qa_1 := qa.cell (i := 1) rfl; replace qa_2 := qa.cell (i := 2) rfl; replace qb := qb.ext hE9; replace qb_0 := qb.cell (i := 0) rfl; replace qb_1 := qb.cell (i := 1) rfl; replace qb_2 := qb.cell (i := 2) rfl
              have HE9 := Lib.hid hE9
              clear hE9
              go_wp2_with fail
              (with_reducible refine (same_yes w9 b' a5 a' a6 a2' n' c5 n' c' n2' c6 n2' c2' l' yss (HQ.out.ext (Ext.trans HEq.out HE9.out)).nat (HY.out.ext (Ext.trans HEr.out HE9.out)).nat (HQ.out.ext (Ext.trans HEq.out HE9.out)).rows (HY.out.ext (Ext.trans HEr.out HE9.out)).rows).mono ?_)
              rintro e w10 ⟨rfl, hE10⟩
              have HE10 := Lib.hid (Ext.trans HE9.out hE10)
              clear hE10 p0 p1 qa qb p0_0 p0_1 p0_2 p1_0 p1_1 p1_2 qa_0 qa_1 qa_2 qb_0 qb_1 qb_2
              go_wp2_with fail
              (with_reducible refine (lives_yes w10).mono ?_)
              rintro e w11 ⟨rfl, hE11⟩
              have HE11 := Lib.hid (Ext.trans HEr.out (Ext.trans HE10.out hE11))
              clear hE11
              go_wp2_with fail
              go_ret
              exact ⟨rfl, HE11.out⟩
end Go.Proofs.YtbhenelehhiakaaGreat
