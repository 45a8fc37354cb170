/-
  qmat: vec, VecFrom; what is made of numerators over a common denominator stays so.
-/
import Derived.Test.YtbhenelehhiakaaGreatVct8
set_option linter.unusedVariables false
set_option linter.unusedSimpArgs false
namespace Go.Proofs.YtbhenelehhiakaaGreat
open Go.RowKit
def RVec (w : World) (de : Int) (zs : List Int) (e : Ending) (w' : World) : Prop := ∃ a n c a2 n2 c2, e = .returned (.agg #[.bool (decide (de < 0)), .slice a n c, .slice a2 n2 c2]) ∧ NatS w.heap.size w' a n c (limbs de.natAbs) ∧ Sl rIntN w.heap.size w' a2 n2 c2 zs ∧ Ext w w'
theorem one_row {K : Nat} {w : World} {g : Nat} {t : TypeId} {a2 : Option Addr} {n2 c2 : Nat} {zs : List Int} (h : Blk w g t #[.slice a2 n2 c2]) (h2 : Sl (rIntK K) 0 w a2 n2 c2 zs) : Sl (rIntK K).slice 0 w (some ⟨g, 0, none⟩) 1 1 [zs] :=
 ⟨rfl, Nat.le_refl _, by omega, fun e => (by cases e), fun i hi => by
  obtain rfl : i = 0 := by simp at hi; omega
  refine ⟨g, 0, _, rfl, ⟨a2, n2, c2, rfl, h2⟩, fun j hj => ?_⟩
  obtain rfl : j = 0 := by simp at hj; omega
  exact ⟨Nat.zero_le _, h.cell (i := 0) rfl, h.free 0⟩⟩
set_option maxRecDepth 100000 in
set_option maxHeartbeats 8000000 in
theorem vec_any (K : Nat) (hK : K ≤ 8796093022208) (w : World) (b : Bool) (a : Option Addr) (n c : Nat) (l : Nt) (h : NatS 0 w a n c l) (hn : n ≤ 8796093022208) (d : Int) (hd : Hid (ival b l = d)) (hd0 : d ≠ 0) (a2 : Option Addr) (n2 c2 : Nat) (zs : List Int) (h2 : Sl (rIntK K) 0 w a2 n2 c2 zs) (hn2 : n2 ≤ 1099511627776) (de : Int) (hde : Hid (madeDen d [zs] = de)) (row : List Int) (hrow : Hid (madeRows d [zs] = [row])) :
  Calls Tryz.prog 59 #[.agg #[.bool b, .slice a n c], .slice a2 n2 c2] w (RVec w de row) := by
 go_enter Tryz.func59, Tryz.ntmps59
 go_wp2_with fail
 have p0 := Blk.new w 25 #[.bool b, .slice a n c]
 have r := Blk.new (w.alloc (Obj.cells #[.bool b, .slice a n c] 25)) 32 #[.bool false, .slice none 0 0, .slice none 0 0]
 replace p0 := p0.ext ((Below.refl _ _).alloc (Nat.le_refl _) (Obj.cells #[.bool false, .slice none 0 0, .slice none 0 0] 32))
 have g := Blk.new ((w.alloc (Obj.cells #[.bool b, .slice a n c] 25)).alloc (Obj.cells #[.bool false, .slice none 0 0, .slice none 0 0] 32)) 30 #[.slice a2 n2 c2]
 replace p0 := p0.ext ((Below.refl _ _).alloc (Nat.le_refl _) (Obj.cells #[.slice a2 n2 c2] 30))
 replace r := r.ext ((Below.refl _ _).alloc (Nat.le_refl _) (Obj.cells #[.slice a2 n2 c2] 30))
 have hEW : Ext w (((w.alloc (Obj.cells #[.bool b, .slice a n c] 25)).alloc (Obj.cells #[.bool false, .slice none 0 0, .slice none 0 0] 32)).alloc (Obj.cells #[.slice a2 n2 c2] 30)) := ((((Below.refl _ w).alloc (by simp) _).alloc (by simp) _).alloc (by simp; omega) _)
 generalize hgW : ((w.alloc (Obj.cells #[.bool b, .slice a n c] 25)).alloc (Obj.cells #[.bool false, .slice none 0 0, .slice none 0 0] 32)).alloc (Obj.cells #[.slice a2 n2 c2] 30) = W at *
 clear hgW
 simp only [World.size_alloc] at r g
 have p0_ne_r : ¬ w.heap.size = w.heap.size + 1 := by omega
 have p0_ne_g : ¬ w.heap.size = w.heap.size + 1 + 1 := by omega
 have r_ne_p0 : ¬ w.heap.size + 1 = w.heap.size := by omega
 have r_ne_g : ¬ w.heap.size + 1 = w.heap.size + 1 + 1 := by omega
 have g_ne_p0 : ¬ w.heap.size + 1 + 1 = w.heap.size := by omega
 have g_ne_r : ¬ w.heap.size + 1 + 1 = w.heap.size + 1 := by omega
 replace p0_0 := p0.cell (i := 0) rfl
 replace p0_1 := p0.cell (i := 1) rfl
 replace r_0 := r.cell (i := 0) rfl
 replace r_1 := r.cell (i := 1) rfl
 replace r_2 := r.cell (i := 2) rfl
 replace r_f0 := r.free 0
 replace r_f1 := r.free 1
 replace r_f2 := r.free 2
 replace r_lt := r.lt
 replace g_0 := g.cell (i := 0) rfl
 have hrB := r_lt
 have hlen := h2.len
 obtain ⟨xss, hG, hxz⟩ := grid_of (intB_of_K hK (one_row g (h2.ext (Nat.le_refl _) hEW))) (by omega) (fun x hx => by simp at hx; subst hx; omega)
 have HXZ := Lib.hid hxz
 clear hxz
 refine (made_any W b a (some ⟨w.heap.size + 1 + 1, 0, none⟩) n c 1 1 l xss (h.ext (Nat.le_refl _) hEW) hG hn d hd hd0).mono ?_
 rintro e w5 ⟨a5, n5, c5, a6, n6, c6, rfl, h5, h6, hE5⟩
 rw [HXZ.out, hde.out] at h5
 rw [HXZ.out, hde.out]
 rw [HXZ.out, hrow.out] at h6
 obtain rfl : 1 = n6 := h6.len
 obtain ⟨b6, o6, cs, ha6, ⟨a7, n7, c7, rfl, hr7⟩, hc6⟩ := h6.at_ 0 (by simp)
 subst ha6
 have hc6 : w5.cell? ⟨b6, o6, none⟩ = some (.slice a7 n7 c7) := by simpa using (hc6 0 (by simp)).cell
 have H7 : Hid (Sl rIntN W.heap.size w5 a7 n7 c7 row) := Lib.hid hr7
 replace r := r.ext hE5; replace r_0 := r.cell (i := 0) rfl; replace r_1 := r.cell (i := 1) rfl; replace r_2 := r.cell (i := 2) rfl; replace r_f0 := r.free 0; replace r_f1 := r.free 1; replace r_f2 := r.free 2; replace r_lt := r.lt
 have hE0 := Ext.trans hEW hE5
 have hWs := hEW.size
 clear h6 hr7 hG hEW hE5 p0 p0_0 p0_1 g g_0
 obtain ⟨sg, hsg⟩ : ∃ s, decide (de < 0) = s := ⟨_, rfl⟩
 rw [hsg]
 have HSG := Lib.hid hsg
 clear hsg
 go_upto_region 2 with (fail)
 have k := Blk.new w5 28 #[.bool sg, .slice a5 n5 c5, .slice (some ⟨b6, o6, none⟩) 1 c6]
 have hEW6 : Ext w5 (w5.alloc (Obj.cells #[.bool sg, .slice a5 n5 c5, .slice (some ⟨b6, o6, none⟩) 1 c6] 28)) := ((Below.refl _ w5).alloc (by simp) _)
 generalize hgW6 : w5.alloc (Obj.cells #[.bool sg, .slice a5 n5 c5, .slice (some ⟨b6, o6, none⟩) 1 c6] 28) = W6 at *
 clear hgW6
 replace k_0 := k.cell (i := 0) rfl
 replace k_1 := k.cell (i := 1) rfl
 replace k_2 := k.cell (i := 2) rfl
 replace r := r.ext hEW6; replace r_0 := r.cell (i := 0) rfl; replace r_1 := r.cell (i := 1) rfl; replace r_2 := r.cell (i := 2) rfl; replace r_f0 := r.free 0; replace r_f1 := r.free 1; replace r_f2 := r.free 2; replace r_lt := r.lt
 have hd6 : Ext W6 W6.drew := (Below.refl _ _).drew
 replace r := r.ext hd6; replace r_0 := r.cell (i := 0) rfl; replace r_1 := r.cell (i := 1) rfl; replace r_2 := r.cell (i := 2) rfl; replace r_f0 := r.free 0; replace r_f1 := r.free 1; replace r_f2 := r.free 2; replace r_lt := r.lt; replace k := k.ext hd6; replace k_0 := k.cell (i := 0) rfl; replace k_1 := k.cell (i := 1) rfl; replace k_2 := k.cell (i := 2) rfl
 have hE6 := Ext.trans hEW6 hd6
 have hb6 : b6 < w5.heap.size := World.block_lt_of_cell? _ _ hc6
 have hc6 := (hE6.cell (p := ⟨b6, o6, none⟩) hb6).trans hc6
 have hsz6 := hE6.size
 have hk6 : w5.heap.size < W6.drew.heap.size := k.lt
 have hcl : (⟨b6, o6, none⟩ : Addr).block < W6.drew.heap.size := Nat.lt_of_lt_of_le hb6 hsz6
 have hEQ : Ext W6.drew (W6.alloc (Obj.cells #[.bool false, .slice none 0 0, .slice none 0 0] 32)).drew := (Below.refl _ _).alloc (Nat.le_refl _) _
 have hq6 := (hEQ.cell (p := ⟨b6, o6, none⟩) hcl).trans hc6
 have hkq := k.ext hEQ
 have hkq0 := hkq.cell (i := 0) rfl
 have hkq1 := hkq.cell (i := 1) rfl
 have hkq2 := hkq.cell (i := 2) rfl
 have hEQ2 : Ext W6.drew (W6.alloc (Obj.cells #[.bool sg, .slice a5 n5 c5, .slice a7 n7 c7] 32)).drew := (Below.refl _ _).alloc (Nat.le_refl _) _
 have hs6 := (hEQ2.cell (p := ⟨b6, o6, none⟩) hcl).trans hc6
 have hks := k.ext hEQ2
 have hks0 := hks.cell (i := 0) rfl
 have hks1 := hks.cell (i := 1) rfl
 have hks2 := hks.cell (i := 2) rfl
 go_region_held3 (fun w' => w'.cell? ⟨b6, o6, none⟩ = some (.slice a7 n7 c7) ∧ w'.cell? ⟨w5.heap.size, 0, none⟩ = some (.bool sg) ∧ w'.cell? ⟨w5.heap.size, 1, none⟩ = some (.slice a5 n5 c5) ∧ w'.cell? ⟨w5.heap.size, 2, none⟩ = some (.slice (some ⟨b6, o6, none⟩) 1 c6)) (first | exact ⟨hc6, k_0, k_1, k_2⟩ | exact ⟨hq6, hkq0, hkq1, hkq2⟩ | exact ⟨hs6, hks0, hks1, hks2⟩ | go_keep) (fail)
 have q : Blk (W6.alloc (Obj.cells #[.bool sg, .slice a5 n5 c5, .slice a7 n7 c7] 32)).drew W6.heap.size 32 #[.bool sg, .slice a5 n5 c5, .slice a7 n7 c7] := Blk.new W6 32 #[.bool sg, .slice a5 n5 c5, .slice a7 n7 c7]
 have r7 := r.ext hEQ2
 have hE8 := Ext.trans hE6 hEQ2
 have hrW6 : w.heap.size + 1 < W6.heap.size := r_lt
 have hsz7 := hE8.size
 clear hEQ hEQ2 hq6 hkq hkq0 hkq1 hkq2 hs6 hks hks0 hks1 hks2 hc6 hcl r r_0 r_1 r_2 r_f0 r_f1 r_f2 r_lt k k_0 k_1 k_2 hE6 hd6 hEW6
 generalize (W6.alloc (Obj.cells #[.bool sg, .slice a5 n5 c5, .slice a7 n7 c7] 32)).drew = W7 at *
 have r := r7
 skip
 skip
 replace r_0 := r.cell (i := 0) rfl
 replace r_1 := r.cell (i := 1) rfl
 replace r_2 := r.cell (i := 2) rfl
 replace r_f0 := r.free 0
 replace r_f1 := r.free 1
 replace r_f2 := r.free 2
 replace r_lt := r.lt
 replace q_0 := q.cell (i := 0) rfl
 replace q_1 := q.cell (i := 1) rfl
 replace q_2 := q.cell (i := 2) rfl
 replace q_f0 := q.free 0
 replace q_f1 := q.free 1
 replace q_f2 := q.free 2
 replace q_lt := q.lt
 have hE9 := Ext.trans hE0 hE8
 have h5f := h5.ext (Nat.le_refl _) hE8
 have H7f := H7.out.ext (Nat.le_refl _) hE8
 by_cases h70 : n7 = 0
 ·subst h70
  have hrowN : row = [] := List.length_eq_zero_iff.1 H7f.len
  have hrW7 : w.heap.size + 1 < W7.heap.size := r_lt
  have HSR : w.heap.size ≤ W6.heap.size := by omega
  have h5g : NatS W.heap.size (W7.setCell ⟨W6.heap.size, 2, none⟩ (.slice none 0 0)) a5 n5 c5 (limbs de.natAbs) := NatS.set h5f q_2 (fun x => by simp) _
  clear h5f H7f
  go_upto_region 5 with (fail)
  replace q := q.set 2 (.slice none 0 0)
  replace r := r.set_ne 2 (.slice none 0 0) (show (w.heap.size + 1) ≠ W6.heap.size by omega)
  have hKW8 : ∀ bB_ : Nat, W6.heap.size < bB_ → Kept bB_ W7 ((W7).setCell ⟨W6.heap.size, 2, none⟩ (.slice none 0 0)) := fun bB_ h0 => (kept_set _ _ _ h0)
  have hzW8 : W7.heap.size ≤ ((W7).setCell ⟨W6.heap.size, 2, none⟩ (.slice none 0 0)).heap.size := by simp only [World.setCell, Array.size_modify]; exact Nat.le_refl _
  have hSW8 : ∀ (nB_ : Nat) (uB_ : World), nB_ ≤ W6.heap.size → Below nB_ uB_ W7 → Below nB_ uB_ ((W7).setCell ⟨W6.heap.size, 2, none⟩ (.slice none 0 0)) := fun nB_ uB_ h0 hb => (Below.setCell hb (p := ⟨W6.heap.size, 2, none⟩) h0 (.slice none 0 0))
  replace q : Blk ((W7).setCell ⟨W6.heap.size, 2, none⟩ (.slice none 0 0)) (W6.heap.size) 32 #[.bool sg, .slice a5 n5 c5, .slice none 0 0] := q
  generalize hgW8 : (W7).setCell ⟨W6.heap.size, 2, none⟩ (.slice none 0 0) = W8 at *
  clear hgW8
  replace q_0 := q.cell (i := 0) rfl
  replace q_1 := q.cell (i := 1) rfl
  replace q_2 := q.cell (i := 2) rfl
  replace q_f0 := q.free 0
  replace q_f1 := q.free 1
  replace q_f2 := q.free 2
  replace q_lt := q.lt
  replace r_0 := r.cell (i := 0) rfl
  replace r_1 := r.cell (i := 1) rfl
  replace r_2 := r.cell (i := 2) rfl
  replace r_f0 := r.free 0
  replace r_f1 := r.free 1
  replace r_f2 := r.free 2
  replace r_lt := r.lt
  have hE10 : Ext w W8 := hSW8 _ _ HSR hE9
  have hr8 : w.heap.size + 1 < W8.heap.size := r_lt
  have hWr : w.heap.size + 1 < W.heap.size := hrB
  have HF : Hid (RVec w de row (.returned (.agg #[.bool sg, .slice a5 n5 c5, .slice none 0 0])) (((W8.setCell ⟨w.heap.size + 1, 0, none⟩ (.bool sg)).setCell ⟨w.heap.size + 1, 1, none⟩ (.slice a5 n5 c5)).setCell ⟨w.heap.size + 1, 2, none⟩ (.slice none 0 0))) :=
   Lib.hid ⟨a5, n5, c5, none, 0, 0, by rw [HSG.out], (h5g.mono (Nat.le_refl _) (kept_set3 _ _ _ _ hWr)).mono hWs (Kept.refl _ _), by rw [hrowN]; exact Sl.empty _ _ _ _, ext_set3 hE10 _ _ _ (by omega)⟩
  clear hE10 hE9 hE8 hE0 h5g hSW8 hKW8 hzW8
  have r2 : Blk ((((W8).setCell ⟨(w.heap.size + 1), 0, none⟩ (.bool sg)).setCell ⟨(w.heap.size + 1), 1, none⟩ (.slice a5 n5 c5)).setCell ⟨(w.heap.size + 1), 2, none⟩ (.slice none 0 0)) _ _ #[.bool sg, .slice a5 n5 c5, .slice none 0 0] := (((r).set 0 (.bool sg)).set 1 (.slice a5 n5 c5)).set 2 (.slice none 0 0)
  have hr0 := r2.cell (i := 0) rfl
  have hr1 := r2.cell (i := 1) rfl
  have hr2 := r2.cell (i := 2) rfl
  go_wp2_with fail
  exact bodyPost_ret (v := .agg #[.bool sg, .slice a5 n5 c5, .slice none 0 0]) (by simp [results, Tryz.results59, go_sem, hr0, hr1, hr2]) rfl HF.out
 ·have hn7b : ((n7 : Int) == 0) = false := by simpa using h70
  have hWr : w.heap.size + 1 < W.heap.size := hrB
  have HF : Hid (RVec w de row (.returned (.agg #[.bool sg, .slice a5 n5 c5, .slice a7 n7 c7])) (((W7.setCell ⟨w.heap.size + 1, 0, none⟩ (.bool sg)).setCell ⟨w.heap.size + 1, 1, none⟩ (.slice a5 n5 c5)).setCell ⟨w.heap.size + 1, 2, none⟩ (.slice a7 n7 c7))) :=
   Lib.hid ⟨a5, n5, c5, a7, n7, c7, by rw [HSG.out], (h5f.mono (Nat.le_refl _) (kept_set3 _ _ _ _ hWr)).mono hWs (Kept.refl _ _), (H7f.mono (Nat.le_refl _) (kept_set3 _ _ _ _ hWr)).mono hWs (Kept.refl _ _), ext_set3 hE9 _ _ _ (by omega)⟩
  clear h70 hE9 hE8 hE0 h5f H7f
  have r2 : Blk ((((W7).setCell ⟨(w.heap.size + 1), 0, none⟩ (.bool sg)).setCell ⟨(w.heap.size + 1), 1, none⟩ (.slice a5 n5 c5)).setCell ⟨(w.heap.size + 1), 2, none⟩ (.slice a7 n7 c7)) _ _ #[.bool sg, .slice a5 n5 c5, .slice a7 n7 c7] := (((r).set 0 (.bool sg)).set 1 (.slice a5 n5 c5)).set 2 (.slice a7 n7 c7)
  have hr0 := r2.cell (i := 0) rfl
  have hr1 := r2.cell (i := 1) rfl
  have hr2 := r2.cell (i := 2) rfl
  go_wp2_with fail
  exact bodyPost_ret (v := .agg #[.bool sg, .slice a5 n5 c5, .slice a7 n7 c7]) (by simp [results, Tryz.results59, go_sem, hr0, hr1, hr2]) rfl HF.out
end Go.Proofs.YtbhenelehhiakaaGreat
namespace Go.Proofs.YtbhenelehhiakaaGreat
open Go.RowKit Go.Shelf
attribute [local go_sem] Oper.semAt_some
end Go.Proofs.YtbhenelehhiakaaGreat
namespace Go.Proofs.YtbhenelehhiakaaGreat
open Go.RowKit Go.Shelf
attribute [local go_sem] Oper.semAt_some
theorem cellE {w w' : World} (hE : Ext w w') {p : Addr} {v : Value} (h : w.cell? p = some v) : w'.cell? p = some v := (hE.cell (World.block_lt_of_cell? _ _ h)).trans h
theorem Sl.weakQ {α : Type} {r s : Rd α} {B B' : Nat} {w : World} {a : Option Addr} {n c : Nat} {xs : List α} (h : Sl r B w a n c xs) (hB : B' ≤ B) (hs : r.size = s.size) (hok : ∀ cs x, x ∈ xs → r.ok B w cs x → s.ok B' w cs x) : Sl s B' w a n c xs :=
 ⟨h.len, h.cap, h.most, h.nil, fun i hi => by
  obtain ⟨b, o, cs, ha, hr, hc⟩ := h.at_ i hi
  refine ⟨b, o, cs, ha, hok _ _ (List.getElem_mem _) hr, fun j hj => ?_⟩
  rw [← hs]
  obtain ⟨h1, h2, h3⟩ := hc j hj
  exact ⟨Nat.le_trans hB h1, h2, h3⟩⟩
theorem evenB_all {α : Type} {xss : List (List α)} (h : evenB xss = true) : ∀ xs ∈ xss, xs.length = colsOf xss := fun xs hx => by
 unfold evenB at h
 rw [List.all_eq_true] at h
 exact of_decide_eq_true (h xs hx)
theorem Sl.from {α : Type} {r : Rd α} {B : Nat} {w : World} {a : Option Addr} {n c : Nat} {xs : List α} (h : Sl r B w a n c xs) {k : Nat} (hk : k ≤ n) : Sl r B w (if c = k then a else a.map (·.add (k * r.size))) (n - k) (c - k) (xs.drop k) := by
 have hl := h.len
 have hc := h.cap
 have hm := h.most
 by_cases hck : c = k
 ·rw [if_pos hck]
  refine ⟨by rw [List.length_drop]; omega, by omega, by omega, fun _ => by omega, fun i hi => absurd hi (by rw [List.length_drop]; omega)⟩
 ·rw [if_neg hck]
  refine ⟨by rw [List.length_drop]; omega, by omega, by omega, fun e => ?_, fun i hi => ?_⟩
  ·cases a with
   | none => have := h.nil rfl; omega
   | some x => cases e
  ·rw [List.length_drop] at hi
   obtain ⟨b, o, cs, ha, hr, hcs⟩ := h.at_ (k + i) (by omega)
   subst ha
   refine ⟨b, o + k * r.size, cs, ?_, by rw [List.getElem_drop]; exact hr, fun j hj => ?_⟩
   ·show (some ((⟨b, o, none⟩ : Addr).add (k * r.size))) = _
    by_cases hz : k * r.size = 0
    ·rw [hz]; simp [Addr.add]
    ·simp [Addr.add, hz]
   ·have := hcs j hj
    rw [show o + k * r.size + i * r.size + j = o + (k + i) * r.size + j by rw [Nat.add_mul]; omega]
    exact this
theorem Sl.exact {α : Type} {r : Rd α} {B : Nat} {w : World} {a : Option Addr} {n c : Nat} {xs : List α} (h : Sl r B w a n c xs) {k : Nat} (hk : k ≤ n) : Sl r B w a k k (xs.take k) := by
 have h1 := h.take hk
 exact ⟨h1.len, Nat.le_refl _, Nat.le_trans h1.cap h1.most, fun e => by have := h1.nil e; have := h1.cap; omega, h1.at_⟩
end Go.Proofs.YtbhenelehhiakaaGreat
namespace Go.Proofs.YtbhenelehhiakaaGreat
open Go.RowKit
def sumZ : Nat → (Nat → Int) → Int
 | 0, _ => 0
 | n + 1, f => sumZ n f + f n
def entry (zss : List (List Int)) (i j : Nat) : Int := (((zss[i]?).getD [])[j]?).getD 0
theorem MatS.entry {K : Nat} {w : World} {b : Bool} {a a2 : Option Addr} {n c n2 c2 m : Nat} {d : Int} {zss : List (List Int)} (h : MatS K w b a n c a2 n2 c2 d zss) (hrow : ∀ zs ∈ zss, zs.length = m) {i j : Nat} (hi : i < n2) (hj : j < m) :
  ∃ b5 o5 b7 o7 c5 s7 a7 n7 c7 l7, a2 = some ⟨b5, o5, none⟩ ∧ b5 < w.heap.size ∧ b7 < w.heap.size ∧ w.cell? ⟨b5, o5 + i, none⟩ = some (.slice (some ⟨b7, o7, none⟩) m c5) ∧ w.cell? ⟨b7, o7 + j * 2, none⟩ = some (.bool s7) ∧ w.cell? ⟨b7, o7 + j * 2 + 1, none⟩ = some (.slice a7 n7 c7) ∧ NatS 0 w a7 n7 c7 l7 ∧ ival s7 l7 = Proofs.YtbhenelehhiakaaGreat.entry zss i j ∧ n7 ≤ K := by
 obtain ⟨l0, h1, h2, h3, h4⟩ := h
 obtain ⟨b5, o5, a5, n5, c5, zs, rfl, hb5, hzs, hc5, hZ⟩ := Sl.getRow h4 hi
 have hn5 : n5 = m := by rw [← hZ.len]; exact hrow zs (List.mem_of_getElem? hzs)
 subst hn5
 obtain ⟨b7, o7, s7, a7, n7, c7, l7, z, rfl, hb7, hz7, hc8, hc9, h7, hi7, hn7⟩ := hZ.getInt (i := j) hj
 refine ⟨b5, o5, b7, o7, c5, s7, a7, n7, c7, l7, rfl, hb5, hb7, hc5, hc8, hc9, h7, ?_, hn7⟩
 rw [hi7]; unfold Proofs.YtbhenelehhiakaaGreat.entry; rw [hzs]; show z = (zs[j]?).getD 0; rw [hz7]; rfl
def RIntB (K : Nat) (w : World) (z : Int) (e : Ending) (w' : World) : Prop := ∃ s a n c, e = .returned (.agg #[.bool s, .slice a n c]) ∧ NatS w.heap.size w' a n c (limbs z.natAbs) ∧ Hid (ival s (limbs z.natAbs) = z) ∧ n ≤ K ∧ Ext w w'
theorem RInt.b {w w' : World} {z : Int} {e : Ending} (h : RInt w z e w') {K : Nat} (hK : nl z.natAbs ≤ K) : RIntB K w z e w' := by
 obtain ⟨a, n, c, rfl, h1, hE⟩ := h
 exact ⟨_, a, n, c, rfl, h1, Lib.hid (ival_norm _), by have := len_norm h1; omega, hE⟩
theorem zmul_b {K K2 : Nat} (b b2 : Bool) (w : World) (a a2 : Option Addr) (n c n2 c2 : Nat) (l l2 : Nt) (z z2 : Int) (h : NatS 0 w a n c l) (h2 : NatS 0 w a2 n2 c2 l2) (hn : n ≤ K) (hn2 : n2 ≤ K2) (hK : K + K2 ≤ 8796093022208) (hz : Hid (ival b l = z)) (hz2 : Hid (ival b2 l2 = z2)) (y : Int) (hy : Hid (z * z2 = y)) :
  Calls Tryz.prog 71 #[.agg #[.bool b, .slice a n c], .agg #[.bool b2, .slice a2 n2 c2]] w (RIntB (K + K2) w y) :=
 (zintMul_z b b2 0 w a a2 n c n2 c2 l l2 z z2 h h2 (by omega) (by omega) hz hz2).mono fun e w' hr => by
  rw [hy.out] at hr
  refine hr.b ?_
  rw [← hy.out, Int.natAbs_mul]
  have g2 := nl_mul z.natAbs z2.natAbs
  have g3 := nl_of h hz
  have g4 := nl_of h2 hz2
  omega
theorem nl_addI (x y : Int) : nl (x + y).natAbs ≤ max (nl x.natAbs) (nl y.natAbs) + 1 := by
 have h : (x + y).natAbs ≤ x.natAbs + y.natAbs := Int.natAbs_add_le x y
 refine Nat.le_trans (nl_mono h) ?_
 refine nl_le_of_lt ?_
 have h1 := lt_pow_nl x.natAbs
 have h2 := lt_pow_nl y.natAbs
 have h3 : 4294967296 ^ nl x.natAbs ≤ 4294967296 ^ max (nl x.natAbs) (nl y.natAbs) := Nat.pow_le_pow_right (by decide) (Nat.le_max_left _ _)
 have h4 : 4294967296 ^ nl y.natAbs ≤ 4294967296 ^ max (nl x.natAbs) (nl y.natAbs) := Nat.pow_le_pow_right (by decide) (Nat.le_max_right _ _)
 generalize 4294967296 ^ nl x.natAbs = p1 at *
 generalize 4294967296 ^ nl y.natAbs = p2 at *
 rw [Nat.pow_succ]
 generalize 4294967296 ^ max (nl x.natAbs) (nl y.natAbs) = p at *
 omega
theorem zadd_b {K : Nat} (b b2 : Bool) (w : World) (a a2 : Option Addr) (n c n2 c2 : Nat) (l l2 : Nt) (z z2 : Int) (h : NatS 0 w a n c l) (h2 : NatS 0 w a2 n2 c2 l2) (hn : n ≤ K) (hn2 : n2 ≤ K) (hK : K + 1 ≤ 8796093022208) (hz : Hid (ival b l = z)) (hz2 : Hid (ival b2 l2 = z2)) (y : Int) (hy : Hid (z + z2 = y)) :
  Calls Tryz.prog 93 #[.agg #[.bool b, .slice a n c], .agg #[.bool b2, .slice a2 n2 c2]] w (RIntB (K + 1) w y) :=
 (zintAdd_z b b2 0 w a a2 n c n2 c2 l l2 z z2 h h2 (by omega) (by omega) hz hz2).mono fun e w' hr => by
  rw [hy.out] at hr
  refine hr.b ?_
  rw [← hy.out]
  have g2 := nl_addI z z2
  have g3 := nl_of h hz
  have g4 := nl_of h2 hz2
  omega
end Go.Proofs.YtbhenelehhiakaaGreat
namespace Go.Proofs.YtbhenelehhiakaaGreat
def sumN : Nat → (Nat → Rat) → Rat
 | 0, _ => 0
 | n + 1, f => sumN n f + f n
def tabQ (f : Nat → Nat → Rat) (r c : Nat) : List (List Rat) := (List.range r).map fun i => (List.range c).map fun k => f i k
def entQ (qss : List (List Rat)) (i j : Nat) : Rat := (((qss[i]?).getD [])[j]?).getD 0
theorem sumN_congr {n : Nat} {f g : Nat → Rat} (h : ∀ j, j < n → f j = g j) : sumN n f = sumN n g := by
 induction n with
 | zero => rfl
 | succ n ih => unfold sumN; rw [ih (fun j hj => h j (by omega)), h n (by omega)]
theorem tabQ_congr {r c : Nat} {f g : Nat → Nat → Rat} (h : ∀ i k, i < r → k < c → f i k = g i k) : tabQ f r c = tabQ g r c := by
 unfold tabQ
 refine List.map_congr_left fun i hi => List.map_congr_left fun k hk => h i k (List.mem_range.1 hi) (List.mem_range.1 hk)
theorem ratv_z (d : Int) : ratv 0 d = 0 := Rat.zero_divInt d
theorem entQ_fracs (d : Int) (zss : List (List Int)) (i j : Nat) : entQ (fracs d zss) i j = ratv (entry zss i j) d := by
 unfold entQ entry fracs
 rw [List.getElem?_map]
 cases zss[i]? with
 | none => exact (ratv_z d).symm
 | some zs =>
  simp only [Option.map_some, Option.getD_some, List.getElem?_map]
  cases zs[j]? with
  | none => exact (ratv_z d).symm
  | some z => rfl
theorem ratv_add1 (x y : Int) {D : Int} (hD : D ≠ 0) : ratv (x + y) D = ratv x D + ratv y D := by
 rw [ratv_add _ _ hD hD, ← Int.add_mul, Int.mul_comm (x + y) D]
 exact (Rat.divInt_mul_left hD).symm
theorem ratv_sum {D : Int} (hD : D ≠ 0) (n : Nat) (f : Nat → Int) : ratv (sumZ n f) D = sumN n fun j => ratv (f j) D := by
 induction n with
 | zero => exact ratv_z D
 | succ n ih => unfold sumZ sumN; rw [ratv_add1 _ _ hD, ih]
theorem length_tabQ (f : Nat → Nat → Rat) (r c : Nat) : (tabQ f r c).length = r := by simp [tabQ]
theorem tabQ_ent (qss : List (List Rat)) (c : Nat) (h : ∀ qs ∈ qss, qs.length = c) : tabQ (entQ qss) qss.length c = qss := by
 unfold tabQ
 refine List.ext_getElem (by simp) fun i h1 h2 => ?_
 rw [List.getElem_map, List.getElem_range]
 have hl := h _ (List.getElem_mem h2)
 refine List.ext_getElem (by simp [hl]) fun k h3 h4 => ?_
 rw [List.getElem_map, List.getElem_range]
 unfold entQ
 simp [List.getElem?_eq_getElem h2, List.getElem?_eq_getElem h4]
end Go.Proofs.YtbhenelehhiakaaGreat
namespace Go.Proofs.YtbhenelehhiakaaGreat
open Go.RowKit
theorem frozenE {w w' : World} (hE : Ext w w') {p : Addr} {v : Value} (hc : w.cell? p = some v) (h : w.frozen? p = false) : w'.frozen? p = false := (hE.frozen (World.block_lt_of_cell? _ _ hc)).trans h
def Tab (K B : Nat) (w : World) (a : Option Addr) (r c m : Nat) (F : List Nat) (f : Nat → Nat → Rat) : Prop := ∃ L, MG K B w a r c m L ∧ L.map Prod.fst = F ∧ L.map Prod.snd = tabQ f r m
def updF (f : Nat → Nat → Rat) (i k : Nat) (q : Rat) : Nat → Nat → Rat := fun i' k' => if i' = i ∧ k' = k then q else f i' k'
theorem Tab.ext {K B : Nat} {w w' : World} {a : Option Addr} {r c m : Nat} {F : List Nat} {f : Nat → Nat → Rat} (h : Tab K B w a r c m F f) (hE : Ext w w') : Tab K B w' a r c m F f := by
 obtain ⟨L, h1, h2, h3⟩ := h
 exact ⟨L, h1.ext hE, h2, h3⟩
theorem Tab.congr {K B : Nat} {w : World} {a : Option Addr} {r c m : Nat} {F : List Nat} {f g : Nat → Nat → Rat} (h : Tab K B w a r c m F f) (hfg : ∀ i k, i < r → k < m → f i k = g i k) : Tab K B w a r c m F g := by
 obtain ⟨L, h1, h2, h3⟩ := h
 exact ⟨L, h1, h2, by rw [h3]; exact tabQ_congr hfg⟩
theorem Tab.read {K B : Nat} {w : World} {a : Option Addr} {r c m : Nat} {F : List Nat} {f : Nat → Nat → Rat} (h : Tab K B w a r c m F f) : Sl (rRatK K).slice B w a r c (tabQ f r m) := by
 obtain ⟨L, h1, h2, h3⟩ := h
 have := h1.read
 rwa [h3] at this
theorem Tab.weak {K K' B B' : Nat} {w : World} {a : Option Addr} {r c m : Nat} {F : List Nat} {f : Nat → Nat → Rat} (h : Tab K B w a r c m F f) (hK : K ≤ K') (hB : B' ≤ B) : Tab K' B' w a r c m F f := by
 obtain ⟨L, h1, h2, h3⟩ := h
 exact ⟨L, h1.weakK hK hB, h2, h3⟩
theorem RRows.tab {K r c : Nat} {qss : List (List Rat)} {w w' : World} {e : Ending} (h : RRows K r c qss w e w') (hl : ∀ qs ∈ qss, qs.length = c) : ∃ a c2 F, e = .returned (.slice a r c2) ∧ Tab K w.heap.size w' a r c2 c F (entQ qss) ∧ qss.length = r ∧ Ext w w' := by
 obtain ⟨a, c2, L, css, B, rfl, h1, h2, hE, _⟩ := h
 have hr : qss.length = r := by rw [← h2, List.length_map]; exact h1.sl.len
 exact ⟨a, c2, _, rfl, ⟨L, h1, rfl, by rw [h2, ← hr, tabQ_ent qss c hl]⟩, hr, hE⟩
theorem RFill.tab {r c : Nat} {w w' : World} {e : Ending} (h : RFill r c w e w') : ∃ a c2 F, e = .returned (.slice a r c2) ∧ Tab 1 w.heap.size w' a r c2 c F (fun _ _ => 0) ∧ Ext w w' := by
 obtain ⟨a, c2, L, rfl, h1, h2, hE⟩ := h
 refine ⟨a, c2, _, rfl, ⟨L, h1, rfl, ?_⟩, hE⟩
 rw [h2]
 unfold tabQ
 refine List.ext_getElem (by simp) fun i h3 h4 => ?_
 rw [List.getElem_map, List.getElem_replicate]
 exact List.ext_getElem (by simp) fun k h5 h6 => by simp
theorem Tab.at_ {K B : Nat} {w : World} {a : Option Addr} {r c m : Nat} {F : List Nat} {f : Nat → Nat → Rat} (h : Tab K B w a r c m F f) {i k : Nat} (hi : i < r) (hk : k < m) : ∃ b o g s1 a1 n1 c1 s2 a2 n2 c2, a = some ⟨b, o, none⟩ ∧ b < w.heap.size ∧ B ≤ g ∧ g < w.heap.size ∧ g ∈ F ∧ b ∉ F ∧ w.cell? ⟨b, o + i, none⟩ = some (.slice (some ⟨g, 0, none⟩) m m) ∧
  (w.cell? ⟨g, k * 4, none⟩ = some (.bool s1) ∧ w.cell? ⟨g, k * 4 + 1, none⟩ = some (.slice a1 n1 c1) ∧ w.cell? ⟨g, k * 4 + 2, none⟩ = some (.bool s2) ∧ w.cell? ⟨g, k * 4 + 3, none⟩ = some (.slice a2 n2 c2)) ∧ (w.frozen? ⟨g, k * 4, none⟩ = false ∧ w.frozen? ⟨g, k * 4 + 1, none⟩ = false ∧ w.frozen? ⟨g, k * 4 + 2, none⟩ = false ∧ w.frozen? ⟨g, k * 4 + 3, none⟩ = false) ∧ RatS K w s1 a1 n1 c1 s2 a2 n2 c2 (f i k) ∧
  ∀ (w2 : World) (cs : List Value) (q : Rat), Tab K B w2 a r c m F f → (rRatK K).ok B w2 cs q → Tab K B (stores w2 g (k * 4) cs) a r c m F (updF f i k q) := by
 have hh := h
 obtain ⟨L, h1, h2, h3⟩ := h
 have hiL : i < L.length := by rw [h1.sl.len]; exact hi
 obtain ⟨b0, o0, cs0, ha, ⟨rfl, hrow⟩, hc0⟩ := h1.sl.at_ i hiL
 obtain ⟨bk, ok, csk, hgk, hqk, hck⟩ := hrow.at_ k (by rw [hrow.len]; exact hk)
 cases hgk
 obtain ⟨s1, a1, n1, c1, s2, a2, n2, c2, rfl, hq⟩ := hqk
 have hq0 : RatS K w s1 a1 n1 c1 s2 a2 n2 c2 (L[i].2[k]'(by rw [hrow.len]; exact hk)) := by
  obtain ⟨l, l2, g1, g2, g3⟩ := hq
  exact ⟨l, l2, Sl.zero g1, Sl.zero g2, g3⟩
 have hfe : (L[i].2[k]'(by rw [hrow.len]; exact hk)) = f i k := by
  have e1 : (L.map Prod.snd)[i]'(by rw [List.length_map]; exact hiL) = (tabQ f r m)[i]'(by rw [length_tabQ]; exact hi) := by simp only [h3]
  rw [List.getElem_map] at e1
  have e2 : (tabQ f r m)[i]'(by rw [length_tabQ]; exact hi) = (List.range m).map fun k => f i k := by unfold tabQ; rw [List.getElem_map, List.getElem_range]
  rw [e2] at e1
  have : L[i].2[k]? = some (f i k) := by rw [e1, List.getElem?_map, List.getElem?_range hk]; rfl
  rw [List.getElem?_eq_getElem (by rw [hrow.len]; exact hk)] at this
  exact Option.some.inj this
 rw [hfe] at hq0
 have key : ∀ j (hj : j < 4), Cel B w L[i].1 (k * 4 + j) ([Value.bool s1, .slice a1 n1 c1, .bool s2, .slice a2 n2 c2][j]'(by simpa using hj)) := fun j hj => by
  have := hck j (by simpa using hj)
  rwa [Nat.zero_add] at this
 have k0 := key 0 (by omega)
 have k1 := key 1 (by omega)
 have k2 := key 2 (by omega)
 have k3 := key 3 (by omega)
 have h0 := hc0 0 (by simp)
 refine ⟨b0, o0, L[i].1, s1, a1, n1, c1, s2, a2, n2, c2, ha, cel_lt h0, k0.ge, cel_lt k0, by rw [← h2]; exact List.mem_map.2 ⟨_, List.getElem_mem _, rfl⟩, fun hm => ?_, by simpa [rRowG] using h0.cell, ⟨k0.cell, k1.cell, k2.cell, k3.cell⟩, ⟨k0.free, k1.free, k2.free, k3.free⟩, hq0, fun w2 cs q ht hok => ?_⟩
 ·rw [← h2] at hm
  obtain ⟨x, hx, hb⟩ := List.mem_map.1 hm
  exact h1.out b0 o0 ha x hx hb.symm
 ·obtain ⟨L2, g1, g2, g3⟩ := ht
  have hiL2 : i < L2.length := by rw [g1.sl.len]; exact hi
  have hge : L2[i].1 = L[i].1 := by
   have : (L2.map Prod.fst)[i]? = (L.map Prod.fst)[i]? := by rw [g2, h2]
   rw [List.getElem?_map, List.getElem?_map, List.getElem?_eq_getElem hiL2, List.getElem?_eq_getElem hiL] at this
   exact Option.some.inj this
  have := g1.set hiL2 hk hok
  rw [← hge]
  refine ⟨_, this, by rw [map_fst_set, g2], ?_⟩
  rw [List.map_set, g3]
  have e2 : L2[i].2 = (List.range m).map fun k => f i k := by
   have e1 : (L2.map Prod.snd)[i]'(by rw [List.length_map]; exact hiL2) = (tabQ f r m)[i]'(by rw [length_tabQ]; exact hi) := by simp only [g3]
   rw [List.getElem_map] at e1
   rw [e1]; unfold tabQ; rw [List.getElem_map, List.getElem_range]
  show (tabQ f r m).set i (L2[i].2.set k q) = _
  rw [e2]
  unfold tabQ
  refine List.ext_getElem (by simp) fun t h5 h6 => ?_
  have ht : t < r := by simpa using h6
  rw [List.getElem_map, List.getElem_range]
  by_cases hti : t = i
  ·subst hti
   rw [List.getElem_set_self]
   refine List.ext_getElem (by simp) fun u h7 h8 => ?_
   rw [List.getElem_map, List.getElem_range]
   unfold updF
   by_cases huk : u = k
   ·subst huk; rw [List.getElem_set_self, if_pos ⟨rfl, rfl⟩]
   ·rw [List.getElem_set_ne (by omega), List.getElem_map, List.getElem_range, if_neg (by omega)]
  ·rw [List.getElem_set_ne (by omega), List.getElem_map, List.getElem_range]
   refine List.map_congr_left fun u _ => ?_
   unfold updF
   rw [if_neg (by omega)]
def Away (F : List Nat) (w : World) (K B : Nat) (a : Option Addr) (r c : Nat) (qss : List (List Rat)) : Prop := ∃ v : World, v.heap.size ≤ w.heap.size ∧ (∀ g ∈ F, g < B ∨ v.heap.size ≤ g) ∧ Sl (rRatK K).slice B v a r c qss ∧ ∀ b, B ≤ b → b < v.heap.size → w.heap[b]? = v.heap[b]?
theorem Away.ext {F : List Nat} {w w' : World} {K B : Nat} {a : Option Addr} {r c : Nat} {qss : List (List Rat)} (h : Away F w K B a r c qss) (hE : Ext w w') : Away F w' K B a r c qss := by
 obtain ⟨v, h1, h2, h3, h4⟩ := h
 exact ⟨v, Nat.le_trans h1 hE.size, h2, h3, fun b g1 g2 => (hE.block b (Nat.lt_of_lt_of_le g2 h1)).trans (h4 b g1 g2)⟩
theorem Away.set {F : List Nat} {w : World} {K B : Nat} {a : Option Addr} {r c : Nat} {qss : List (List Rat)} (h : Away F w K B a r c qss) {g : Nat} (hg : g ∈ F) (vs : List Value) (off : Nat) : Away F (stores w g off vs) K B a r c qss := by
 obtain ⟨v, h1, h2, h3, h4⟩ := h
 have hgr := grownBy_stores (g := g) vs w off
 exact ⟨v, Nat.le_trans h1 hgr.size, h2, h3, fun b g1 g2 => (hgr.block b (Nat.lt_of_lt_of_le g2 h1) (fun e => by cases e; have := h2 _ hg; omega)).trans (h4 b g1 g2)⟩
theorem away_old {K B : Nat} {F : List Nat} {w w' : World} {a : Option Addr} {r c : Nat} {qss : List (List Rat)} (h : Sl (rRatK K).slice B w a r c qss) (hE : Ext w w') (hF : ∀ g ∈ F, w.heap.size ≤ g) : Away F w' K B a r c qss :=
 ⟨w, hE.size, fun g hg => .inr (hF g hg), h, fun b _ hb => hE.block b hb⟩
theorem Away.size {F : List Nat} {w : World} {K B : Nat} {a : Option Addr} {r c : Nat} {qss : List (List Rat)} (h : Away F w K B a r c qss) : qss.length = r ∧ r ≤ c ∧ c ≤ 9223372036854775807 := by
 obtain ⟨v, _, _, h3, _⟩ := h
 exact ⟨h3.len, h3.cap, h3.most⟩
theorem Away.ent {K B : Nat} {F : List Nat} {w : World} {a : Option Addr} {r c m : Nat} {qss : List (List Rat)} (h : Away F w K B a r c qss) (hl : ∀ qs ∈ qss, qs.length = m) {i k : Nat} (hi : i < r) (hk : k < m) : ∃ b o b7 o7 c7 s1 a1 n1 c1 s2 a2 n2 c2, a = some ⟨b, o, none⟩ ∧ b < w.heap.size ∧ (∀ g ∈ F, b ≠ g ∧ b7 ≠ g) ∧ b7 < w.heap.size ∧ w.cell? ⟨b, o + i, none⟩ = some (.slice (some ⟨b7, o7, none⟩) m c7) ∧ m ≤ c7 ∧
  w.cell? ⟨b7, o7 + k * 4, none⟩ = some (.bool s1) ∧ w.cell? ⟨b7, o7 + k * 4 + 1, none⟩ = some (.slice a1 n1 c1) ∧ w.cell? ⟨b7, o7 + k * 4 + 2, none⟩ = some (.bool s2) ∧ w.cell? ⟨b7, o7 + k * 4 + 3, none⟩ = some (.slice a2 n2 c2) ∧ RatS K w s1 a1 n1 c1 s2 a2 n2 c2 (entQ qss i k) := by
 obtain ⟨v, hs, hF, h, hb⟩ := h
 have hil : i < qss.length := by rw [h.len]; exact hi
 obtain ⟨b, o, cs, ha, ⟨a8, n8, c8, rfl, hrow⟩, hc⟩ := h.at_ i hil
 have hn8 : n8 = m := by rw [← hrow.len]; exact hl _ (List.getElem_mem _)
 subst hn8
 have hkl : k < qss[i].length := by rw [hrow.len]; exact hk
 obtain ⟨b7, o7, cs7, ha8, ⟨s7, a9, n9, c9, s8, a10, n10, c10, rfl, l, l2, g1, g2, g3⟩, hc7⟩ := hrow.at_ k hkl
 subst ha8
 have x0 : Cel B v b (o + i) (.slice (some ⟨b7, o7, none⟩) n8 c8) := by simpa [Rd.slice] using hc 0 (by simp)
 have e0 := hc7 0 (by simp)
 have hkp : Kept B v w := kept_int fun b hb1 hb2 => hb b hb1 hb2
 have he : entQ qss i k = qss[i][k] := by unfold entQ; rw [List.getElem?_eq_getElem hil]; show (qss[i][k]?).getD 0 = _; rw [List.getElem?_eq_getElem hkl]; rfl
 rw [he]
 refine ⟨b, o, b7, o7, c8, s7, a9, n9, c9, s8, a10, n10, c10, ha, Nat.lt_of_lt_of_le (cel_lt x0) hs, fun g hg => ?_, Nat.lt_of_lt_of_le (cel_lt e0) hs, (hkp _ _ _ x0).cell, hrow.cap, (hkp _ _ _ e0).cell, (hkp _ _ _ (hc7 1 (by simp))).cell, (hkp _ _ _ (hc7 2 (by simp))).cell, (hkp _ _ _ (hc7 3 (by simp))).cell, l, l2, Sl.zero (g1.mono (Nat.le_refl _) hkp), Sl.zero (g2.mono (Nat.le_refl _) hkp), g3⟩
 have q1 := hF g hg
 have q2 := cel_lt x0
 have q3 := x0.ge
 have q4 := cel_lt e0
 have q5 := e0.ge
 exact ⟨by omega, by omega⟩
theorem Tab.row {K B : Nat} {w : World} {a : Option Addr} {r c m : Nat} {F : List Nat} {f : Nat → Nat → Rat} (h : Tab K B w a r c m F f) {i : Nat} (hi : i < r) : ∃ b o g, a = some ⟨b, o, none⟩ ∧ b < w.heap.size ∧ w.cell? ⟨b, o + i, none⟩ = some (.slice (some ⟨g, 0, none⟩) m m) := by
 obtain ⟨L, h1, h2, h3⟩ := h
 obtain ⟨b0, o0, cs0, ha, ⟨rfl, hrow⟩, hc0⟩ := h1.sl.at_ i (by rw [h1.sl.len]; exact hi)
 have h0 := hc0 0 (by simp)
 exact ⟨b0, o0, _, ha, cel_lt h0, by simpa [rRowG] using h0.cell⟩
end Go.Proofs.YtbhenelehhiakaaGreat
namespace Go.Proofs.YtbhenelehhiakaaGreat
open Go.RowKit
def rI64 : Rd Int where
 size := 1
 ok _ _ cs z := cs = [.int .i64 z]
 len h := by rw [h]; rfl
 mono h _ _ := h
theorem Sl.getI64 {B : Nat} {w : World} {a : Option Addr} {n c : Nat} {xs : List Int} (h : Sl rI64 B w a n c xs) {i : Nat} (hi : i < n) : ∃ b o z, a = some ⟨b, o, none⟩ ∧ b < w.heap.size ∧ xs[i]? = some z ∧ w.cell? ⟨b, o + i, none⟩ = some (.int .i64 z) := by
 have hl : i < xs.length := by rw [h.len]; exact hi
 obtain ⟨b, o, cs, ha, h1, hc⟩ := h.at_ i hl
 have h1' : cs = [.int .i64 xs[i]] := h1
 subst h1'
 exact ⟨b, o, _, ha, cel_lt (hc 0 (by simp)), List.getElem?_eq_getElem hl, by simpa [rI64] using (hc 0 (by simp)).cell⟩
set_option maxRecDepth 100000 in
set_option maxHeartbeats 8000000 in
theorem of_any (w : World) (a : Option Addr) (n c : Nat) (zss : List (List Int)) (h : Sl rI64.slice 0 w a n c zss) (hn : n ≤ 1099511627776) (hrow : Hid (∀ zs ∈ zss, zs.length ≤ 1099511627776)) (hint : Hid (∀ zs ∈ zss, ∀ z ∈ zs, -9223372036854775808 ≤ z ∧ z ≤ 9223372036854775807)) :
  Calls Tryz.prog 76 #[.slice a n c] w (RFrom w 1 zss) := by
 have HS := Lib.hid h
 have hmost := h.most
 have hcap := h.cap
 have hlen := Lib.hid h.len
 clear h
 go_enter Tryz.func76, Tryz.ntmps76
 go_wp2_with fail
 have r := Blk.new w 28 #[.bool false, .slice none 0 0, .slice none 0 0]
 have hEW : Ext w (w.alloc (Obj.cells #[.bool false, .slice none 0 0, .slice none 0 0] 28)) := ((Below.refl _ w).alloc (by simp) _)
 generalize hgW : w.alloc (Obj.cells #[.bool false, .slice none 0 0, .slice none 0 0] 28) = W at *
 clear hgW
 replace r_0 := r.cell (i := 0) rfl
 replace r_1 := r.cell (i := 1) rfl
 replace r_2 := r.cell (i := 2) rfl
 replace r_f0 := r.free 0
 replace r_f1 := r.free 1
 replace r_f2 := r.free 2
 replace r_lt := r.lt
 refine (r3Of_any 1 W (by omega) (by omega)).mono ?_
 rintro e w2 ⟨a5, n5, c5, rfl, h5, hE2⟩
 rw [show decide ((1 : Int) < 0) = false from rfl]
 rw [show (1 : Int).natAbs = 1 from rfl] at h5
 have hWl := r_lt
 replace r := r.ext hE2; replace r_0 := r.cell (i := 0) rfl; replace r_1 := r.cell (i := 1) rfl; replace r_2 := r.cell (i := 2) rfl; replace r_f0 := r.free 0; replace r_f1 := r.free 1; replace r_f2 := r.free 2; replace r_lt := r.lt
 have HR0 := Lib.hid r
 have HE0 := Lib.hid (Ext.trans hEW hE2)
 have H5 := Lib.hid (h5.mono (B' := w.heap.size + 1) hWl (Kept.refl _ _))
 have hszr := r_lt
 clear h5 hE2 hEW
 go_wp2_with fail
 have o := Blk.new w2 28 #[.bool false, .slice a5 n5 c5, .slice none 0 0]
 have hEW3 : Ext w2 (w2.alloc (Obj.cells #[.bool false, .slice a5 n5 c5, .slice none 0 0] 28)) := ((Below.refl _ w2).alloc (by simp) _)
 generalize hgW3 : w2.alloc (Obj.cells #[.bool false, .slice a5 n5 c5, .slice none 0 0] 28) = W3 at *
 clear hgW3
 replace o_0 := o.cell (i := 0) rfl
 replace o_1 := o.cell (i := 1) rfl
 replace o_2 := o.cell (i := 2) rfl
 have HE3 := Lib.hid hEW3
 have HO0 := Lib.hid o
 have hW3 : w2.heap.size + 1 ≤ W3.heap.size := o.lt
 clear o o_0 o_1 o_2 r r_0 r_1 r_2 r_f0 r_f1 r_f2 r_lt hEW3
 go_loopg [13] n (fun q vi wx => ∃ (j : Nat), j ≤ n ∧ q = n - j ∧ vi = .int .i64 (j : Int) ∧ Hid (∃ vo css, Blk wx w2.heap.size 28 #[.bool false, .slice a5 n5 c5, vo] ∧ Grp rRowsN W3.heap.size 30 wx vo j (zss.take j) css) ∧ Hid (Ext w2 wx) ∧ W3.heap.size ≤ wx.heap.size)
 case atStart => exact ⟨0, Nat.zero_le _, by omega, rfl, Lib.hid ⟨_, [], HO0.out, Grp.nil _ _ _ _⟩, HE3, Nat.le_refl _⟩
 case round =>
  obtain ⟨j, hj, hq, rfl, HO, HEx, hszx⟩ := hrel
  by_cases hjn : j < n
  ·obtain ⟨b6, o6, a1, n1, c1, x, ha6, hb6, hx, hc6, hrw⟩ := HS.out.getRow hjn
   subst ha6
   replace hc6 := ((Ext.trans HE0.out HEx.out).cell (p := ⟨b6, o6 + j, none⟩) hb6).trans hc6
   obtain ⟨hil, hxe⟩ := List.getElem?_eq_some_iff.1 hx
   have hmem : x ∈ zss := List.mem_of_getElem? hx
   have hts : zss.take (j + 1) = zss.take j ++ [x] := by rw [List.take_succ_eq_append_getElem hil, hxe]
   have HTS := Lib.hid hts
   have hn1 : n1 ≤ 1099511627776 := by rw [← hrw.len]; exact hrow.out x hmem
   have HIN := Lib.hid (hint.out x hmem)
   have HRW := Lib.hid hrw
   have hcap1 := hrw.cap
   have hmost1 := hrw.most
   have HL1 := Lib.hid hrw.len
   obtain ⟨cur, hcur, hmk⟩ := make_any under_ints info_int n1 n1 (Nat.le_refl _) (by omega) (by omega)
   replace hmk : ∀ w, (Instr.makeSlice 30 (.int .i64 (n1 : Int)) (.int .i64 (n1 : Int))).run Tryz.prog w = .ok (.slice (some ⟨w.heap.size, 0, none⟩) n1 n1) (w.alloc (.cells cur 25)) := hmk
   have HCur := Lib.hid hcur
   clear hcur hx hxe hmem hts hrw
   obtain ⟨wo, rfl⟩ : ∃ wo : World, wo = wr := ⟨_, rfl⟩
   have hEA : Ext wo (wo.alloc (Obj.cells cur 25)) := (Below.refl _ _).alloc (Nat.le_refl _) _
   have HG0 : Hid (Grp rIntN wo.heap.size 25 (wo.alloc (Obj.cells cur 25)) (.slice (some ⟨wo.heap.size, 0, none⟩) 0 n1) 0 [] []) := Lib.hid ⟨rfl, rfl, World.ownsRow_made wo cur n1 (Nat.le_refl _) (by unfold maxLen; omega) HCur.out, fun k hk => absurd hk (by simp)⟩
   have HEA := Lib.hid hEA
   clear hEA
   go_wp2_with fail
   go_loopg [22] n1 (fun q2 vi2 w3_ => ∃ (k : Nat), k ≤ n1 ∧ q2 = n1 - k ∧ vi2 = .int .i64 (k : Int) ∧ Hid (∃ css, Grp rIntN wo.heap.size 25 w3_ (.slice (some ⟨wo.heap.size, 0, none⟩) k n1) k (x.take k) css) ∧ Hid (Ext wo w3_))
   case atStart => exact ⟨0, Nat.zero_le _, by omega, rfl, Lib.hid ⟨[], HG0.out⟩, HEA⟩
   case round =>
    obtain ⟨k, hk, hq2, rfl, HGk, HEk⟩ := hrel
    by_cases hkn : k < n1
    ·obtain ⟨b7, o7, z, ha7, hb7, hz, hc7⟩ := HRW.out.getI64 hkn
     subst ha7
     replace hc7 := ((Ext.trans HE0.out (Ext.trans HEx.out HEk.out)).cell (p := ⟨b7, o7 + k, none⟩) hb7).trans hc7
     obtain ⟨hkl, hze⟩ := List.getElem?_eq_some_iff.1 hz
     have hzb := HIN.out z (List.mem_of_getElem? hz)
     have HTK : Hid (x.take (k + 1) = x.take k ++ [z]) := Lib.hid (by rw [List.take_succ_eq_append_getElem hkl, hze])
     obtain ⟨css, hGk⟩ := HGk.out
     have hgl := hGk.cell.1
     have HGG := Lib.hid hGk
     clear hz hze hGk
     go_wp2_with fail
     refine (r3Of_any z wr hzb.1 hzb.2).mono ?_
     rintro e w5 ⟨a7, n7, c7, rfl, h7, hE5⟩
     have hG5 := HGG.out.keep hE5.size (fun b _ h2 => hE5.block b h2)
     obtain ⟨hg1, hg2, hg3⟩ := hG5.cell
     have q0 := hg3 (k * 2) (show k * 2 < n1 * 2 by omega)
     have q1 := hg3 (k * 2 + 1) (show k * 2 + 1 < n1 * 2 by omega)
     obtain ⟨⟨u0, s0⟩, f0⟩ := q0
     obtain ⟨⟨u1, s1⟩, f1⟩ := q1
     have HP := Lib.hid (hG5.put hkn (x := z) (cs := [.bool (decide (z < 0)), .slice a7 n7 c7]) (Bx := wr.heap.size) ⟨a7, n7, c7, rfl, h7⟩ HEk.out.size hgl)
     have HEP := Lib.hid (Below.setCell (Below.setCell (Ext.trans HEk.out hE5) (p := ⟨wo.heap.size, k * 2, none⟩) (Nat.le_refl _) (.bool (decide (z < 0)))) (p := ⟨wo.heap.size, k * 2 + 1, none⟩) (Nat.le_refl _) (.slice a7 n7 c7))
     clear hG5 hg3 h7 hE5 hc7 hc6
     go_wp2_with fail
     go_roundg (n1 - (k + 1))
     case measure => omega
     case rel => exact ⟨k + 1, by omega, rfl, by go_num, Lib.hid ⟨css ++ [[.bool (decide (z < 0)), .slice a7 n7 c7]], by rw [HTK.out]; exact HP.out⟩, HEP⟩
    ·obtain rfl : k = n1 := by omega
     obtain ⟨css0, hGk⟩ := HGk.out
     rw [List.take_of_length_le (by rw [HL1.out]; exact Nat.le_refl _)] at hGk
     obtain ⟨ar, cr, hv, hsr⟩ := hGk.sl
     cases hv
     obtain ⟨vo, css2, ho, hGo⟩ := HO.out
     have hEB : Ext wr (wr.alloc (Obj.cells #[.slice (some ⟨wo.heap.size, 0, none⟩) k k] 30)) := (Below.refl _ _).alloc (Nat.le_refl _) _
     have hEB2 := Ext.trans HEk.out hEB
     have hlt11 := hGo.own.lt
     have hG11 := Lib.hid (hGo.keep hEB2.size (fun b _ h2 => hEB2.block b h2))
     have H11 := Lib.hid (hsr.ext (Nat.le_refl _) hEB)
     have HE11 := Lib.hid (Ext.trans HEx.out hEB2)
     have hszB := hEB2.size
     have hoE := ho.ext hEB2
     have hnews : ∀ (j' : Nat) (u : Value), [Value.slice (some ⟨wo.heap.size, 0, none⟩) k k][j']? = some u → (wr.alloc (Obj.cells #[.slice (some ⟨wo.heap.size, 0, none⟩) k k] 30)).cell? ((⟨wr.heap.size, 0, none⟩ : Addr).add j') = some u := fun j' u hu => by
      match j', hu with
      | 0, hu => cases hu; exact (Blk.new wr 30 #[.slice (some ⟨wo.heap.size, 0, none⟩) k k]).cell (i := 0) rfl
      | k + 1, hu => simp at hu
     obtain ⟨i0, hi0, hz0, hz1, hz2⟩ := info_parts info_ints
     have o := ho.ext HEk.out
     clear hGo hGk hEB2 hsr hEB ho hc6
     skip
     replace o_0 := o.cell (i := 0) rfl
     replace o_1 := o.cell (i := 1) rfl
     replace o_2 := o.cell (i := 2) rfl
     replace o_f0 := o.free 0
     replace o_f1 := o.free 1
     replace o_f2 := o.free 2
     replace o_lt := o.lt
     go_wp2_with (at_builtin; refine wpList_append_own_at _ rfl _ _ 26 rfl W3.heap.size 30 i0 _ 1 24 under_intss hi0 hz0 hz1 hz2 rfl (by decide) _ _ _ rfl hG11.out.own ⟨wr.heap.size, 0, none⟩ 1 1 [.slice (some ⟨wo.heap.size, 0, none⟩) k k] rfl rfl hnews (by simp [Value.oneCell']) (by unfold maxLen; omega) (by omega) (by exact Nat.le_trans hszx hszB) ?_; intro v' w1_ hown' hgrow _ hat; obtain ⟨g', cap', rfl⟩ := ownsRow_succ hown'; replace o := Blk.grown hoE hgrow (fun e => by have := (hlt11 _ e.symm).1; omega); replace o_0 := o.cell (i := 0) rfl; replace o_1 := o.cell (i := 1) rfl; replace o_2 := o.cell (i := 2) rfl; replace o_f0 := o.free 0; replace o_f1 := o.free 1; replace o_f2 := o.free 2; replace o_lt := o.lt)
     have HAD := Lib.hid (hG11.out.add hown' hgrow hat (x := x) (Bx := wo.heap.size) ⟨_, k, k, rfl, H11.out⟩ hszx (fun k e => (hlt11 k e).2))
     have hgs := hgrow.size
     have HEz := Lib.hid ((HE11.out.grown hgrow HE11.out.size (fun k e => by have := (hlt11 k e).1; omega)).setCell (p := ⟨w2.heap.size, 2, none⟩) (Nat.le_refl _) (.slice (some ⟨g', 0, none⟩) (j + 1) cap'))
     have HOz := Lib.hid (o.set 2 (.slice (some ⟨g', 0, none⟩) (j + 1) cap'))
     have hszz : W3.heap.size ≤ (w1_.setCell ⟨w2.heap.size, 2, none⟩ (.slice (some ⟨g', 0, none⟩) (j + 1) cap')).heap.size := by simp only [World.setCell, Array.size_modify]; exact Nat.le_trans (Nat.le_trans hszx hszB) hgs
     have HKa := Lib.hid (HAD.out.keep (w' := w1_.setCell ⟨w2.heap.size, 2, none⟩ (.slice (some ⟨g', 0, none⟩) (j + 1) cap')) (by simp [World.setCell]) (fun b h1 _ => Below.heap_setCell _ _ _ b (by simp; omega)))
     clear hown' hgrow hat hnews
     go_wp2_with fail
     go_roundg (n - (j + 1))
     case measure => omega
     case rel => exact ⟨j + 1, by omega, rfl, by go_num, Lib.hid ⟨_, css2 ++ [[.slice (some ⟨wo.heap.size, 0, none⟩) k k]], HOz.out, by rw [HTS.out]; exact HKa.out⟩, HEz, hszz⟩
  ·obtain rfl : j = n := by omega
   obtain ⟨vo, css, ho, hG⟩ := HO.out
   rw [List.take_of_length_le (by rw [hlen.out]; exact Nat.le_refl _)] at hG
   obtain ⟨aa2, ca2, rfl, hsl⟩ := hG.sl
   have hrows : Sl rRowsN (w.heap.size + 1) wr aa2 j ca2 zss := hsl.mono (by omega) (Kept.refl _ _)
   have h5 := H5.out.ext (Nat.le_refl _) HEx.out
   have r := HR0.out.ext HEx.out
   have o := ho
   have hEa := Ext.trans HE0.out HEx.out
   have HF : Hid (RFrom w 1 zss (.returned (.agg #[.bool false, .slice a5 n5 c5, .slice aa2 j ca2])) (((wr.setCell ⟨w.heap.size, 0, none⟩ (.bool false)).setCell ⟨w.heap.size, 1, none⟩ (.slice a5 n5 c5)).setCell ⟨w.heap.size, 2, none⟩ (.slice aa2 j ca2))) :=
    Lib.hid ⟨a5, n5, c5, aa2, j, ca2, rfl, h5.mono (by omega) (kept_set3 _ _ _ _ (Nat.lt_succ_self _)), hrows.mono (by omega) (kept_set3 _ _ _ _ (Nat.lt_succ_self _)), ext_set3 hEa _ _ _ (Nat.le_refl _)⟩
   clear hrows h5 hEa hsl hG ho
   skip
   skip
   replace r_0 := r.cell (i := 0) rfl
   replace r_1 := r.cell (i := 1) rfl
   replace r_2 := r.cell (i := 2) rfl
   replace r_f0 := r.free 0
   replace r_f1 := r.free 1
   replace r_f2 := r.free 2
   replace r_lt := r.lt
   replace o_0 := o.cell (i := 0) rfl
   replace o_1 := o.cell (i := 1) rfl
   replace o_2 := o.cell (i := 2) rfl
   have r2 := ((r.set 0 (.bool false)).set 1 (.slice a5 n5 c5)).set 2 (.slice aa2 j ca2)
   have hr0 := r2.cell (i := 0) rfl
   have hr1 := r2.cell (i := 1) rfl
   have hr2 := r2.cell (i := 2) rfl
   go_wp2_with fail
   exact bodyPost_ret (v := .agg #[.bool false, .slice a5 n5 c5, .slice aa2 j ca2]) (by simp [results, Tryz.results76, go_sem, hr0, hr1, hr2]) rfl HF.out
end Go.Proofs.YtbhenelehhiakaaGreat
namespace Go.Proofs.YtbhenelehhiakaaGreat
open Go.RowKit
theorem Sl.weakm {α : Type} {r s : Rd α} {B B' : Nat} {w : World} {a : Option Addr} {n c : Nat} {xs : List α} (h : Sl r B w a n c xs) (hB : B' ≤ B) (hs : r.size = s.size) (hok : ∀ cs x, x ∈ xs → r.ok B w cs x → s.ok B' w cs x) : Sl s B' w a n c xs :=
 ⟨h.len, h.cap, h.most, h.nil, fun i hi => by
  obtain ⟨b, o, cs, ha, hr, hc⟩ := h.at_ i hi
  refine ⟨b, o, cs, ha, hok _ _ (List.getElem_mem _) hr, fun j hj => ?_⟩
  rw [← hs]
  obtain ⟨h1, h2, h3⟩ := hc j hj
  exact ⟨Nat.le_trans hB h1, h2, h3⟩⟩
theorem intK_of {K B : Nat} {w : World} {cs : List Value} {z : Int} (h : rIntN.ok B w cs z) (hz : nl z.natAbs ≤ K) : (rIntK K).ok 0 w cs z := by
 obtain ⟨a, n, c, e, h1⟩ := h
 exact ⟨_, a, n, c, _, e, h1.mono (Nat.zero_le _) (Kept.refl _ _), ival_norm z, by have := h1.len; rw [length_limbs] at this; omega⟩
theorem matS_of {K B : Nat} {w : World} {b : Bool} {a a2 : Option Addr} {n c n2 c2 : Nat} {d : Int} {zss : List (List Int)} (h : NatS B w a n c (limbs d.natAbs)) (hb : decide (d < 0) = b) (h2 : Sl rRowsN B w a2 n2 c2 zss) (hd : nl d.natAbs ≤ K) (hz : ∀ zs ∈ zss, ∀ z ∈ zs, nl z.natAbs ≤ K) : MatS K w b a n c a2 n2 c2 d zss := by
 subst hb
 refine ⟨_, h.mono (Nat.zero_le _) (Kept.refl _ _), ival_norm d, by have := h.len; rw [length_limbs] at this; omega, ?_⟩
 refine h2.weakm (Nat.zero_le _) rfl fun cs zs hm ⟨a, n, c, e, h3⟩ => ⟨a, n, c, e, ?_⟩
 exact h3.weakm (Nat.zero_le _) rfl fun cs z hm2 h4 => intK_of h4 (hz zs hm z hm2)
theorem Sl.ofBlk {α : Type} {r : Rd α} (hr : r.size = 1) {w : World} {g : Nat} {t : TypeId} {vs : List Value} {xs : List α} (h : Blk w g t vs.toArray) (hl : xs.length = vs.length) (hm : vs.length ≤ 9223372036854775807) (hok : ∀ i (h1 : i < xs.length) (h2 : i < vs.length), r.ok 0 w [vs[i]] xs[i]) : Sl r 0 w (some ⟨g, 0, none⟩) vs.length vs.length xs := by
 refine ⟨hl, Nat.le_refl _, hm, by simp, fun i hi => ?_⟩
 have hi2 : i < vs.length := by omega
 refine ⟨g, 0, [vs[i]], rfl, hok i hi hi2, fun j hj => ?_⟩
 have : j = 0 := by simp at hj; omega
 subst this
 rw [hr]
 refine ⟨Nat.zero_le _, ?_, h.free _⟩
 have := h.cell (i := 0 + i * 1 + 0) (v := vs[i]) (by simp)
 exact this
theorem sl_int1 {w : World} {g : Nat} {t : TypeId} {x : Int} (h : Blk w g t #[.int .i64 x]) : Sl rI64 0 w (some ⟨g, 0, none⟩) 1 1 [x] :=
 Sl.ofBlk (vs := [.int .i64 x]) rfl h rfl (by simp) fun i h1 h2 => by
  match i, h1 with
  | 0, _ => rfl
theorem sl_int2 {w : World} {g : Nat} {t : TypeId} {x y : Int} (h : Blk w g t #[.int .i64 x, .int .i64 y]) : Sl rI64 0 w (some ⟨g, 0, none⟩) 2 2 [x, y] :=
 Sl.ofBlk (vs := [.int .i64 x, .int .i64 y]) rfl h rfl (by simp) fun i h1 h2 => by
  match i, h1 with
  | 0, _ => rfl
  | 1, _ => rfl
theorem sl_row1 {w : World} {g : Nat} {t : TypeId} {a : Option Addr} {n c : Nat} {xs : List Int} (h : Blk w g t #[.slice a n c]) (hx : Sl rI64 0 w a n c xs) : Sl rI64.slice 0 w (some ⟨g, 0, none⟩) 1 1 [xs] :=
 Sl.ofBlk (vs := [.slice a n c]) rfl h rfl (by simp) fun i h1 h2 => by
  match i, h1 with
  | 0, _ => exact ⟨a, n, c, rfl, hx⟩
theorem sl_row2 {w : World} {g : Nat} {t : TypeId} {a a2 : Option Addr} {n c n2 c2 : Nat} {xs ys : List Int} (h : Blk w g t #[.slice a n c, .slice a2 n2 c2]) (hx : Sl rI64 0 w a n c xs) (hy : Sl rI64 0 w a2 n2 c2 ys) : Sl rI64.slice 0 w (some ⟨g, 0, none⟩) 2 2 [xs, ys] :=
 Sl.ofBlk (vs := [.slice a n c, .slice a2 n2 c2]) rfl h rfl (by simp) fun i h1 h2 => by
  match i, h1 with
  | 0, _ => exact ⟨a, n, c, rfl, hx⟩
  | 1, _ => exact ⟨a2, n2, c2, rfl, hy⟩
theorem of_row2 (w : World) (g g2 : Nat) (t t2 : TypeId) (x y : Int) (h : Blk w g t #[.int .i64 x, .int .i64 y]) (h2 : Blk w g2 t2 #[.slice (some ⟨g, 0, none⟩) 2 2]) (hx : -9223372036854775808 ≤ x ∧ x ≤ 9223372036854775807) (hy : -9223372036854775808 ≤ y ∧ y ≤ 9223372036854775807) :
  Calls Tryz.prog 76 #[.slice (some ⟨g2, 0, none⟩) 1 1] w (RFrom w 1 [[x, y]]) :=
 of_any w _ 1 1 [[x, y]] (sl_row1 h2 (sl_int2 h)) (by omega) (Lib.hid (by simp)) (Lib.hid (by simp; omega))
theorem of_row1 (w : World) (g g2 : Nat) (t t2 : TypeId) (x : Int) (h : Blk w g t #[.int .i64 x]) (h2 : Blk w g2 t2 #[.slice (some ⟨g, 0, none⟩) 1 1]) (hx : -9223372036854775808 ≤ x ∧ x ≤ 9223372036854775807) :
  Calls Tryz.prog 76 #[.slice (some ⟨g2, 0, none⟩) 1 1] w (RFrom w 1 [[x]]) :=
 of_any w _ 1 1 [[x]] (sl_row1 h2 (sl_int1 h)) (by omega) (Lib.hid (by simp)) (Lib.hid (by simp; omega))
theorem of_rows2 (w : World) (g g2 g3 : Nat) (t t2 t3 : TypeId) (x y x2 y2 : Int) (h : Blk w g t #[.int .i64 x, .int .i64 y]) (h' : Blk w g3 t3 #[.int .i64 x2, .int .i64 y2]) (h2 : Blk w g2 t2 #[.slice (some ⟨g, 0, none⟩) 2 2, .slice (some ⟨g3, 0, none⟩) 2 2]) (hx : -9223372036854775808 ≤ x ∧ x ≤ 9223372036854775807) (hy : -9223372036854775808 ≤ y ∧ y ≤ 9223372036854775807) (hx2 : -9223372036854775808 ≤ x2 ∧ x2 ≤ 9223372036854775807) (hy2 : -9223372036854775808 ≤ y2 ∧ y2 ≤ 9223372036854775807) :
  Calls Tryz.prog 76 #[.slice (some ⟨g2, 0, none⟩) 2 2] w (RFrom w 1 [[x, y], [x2, y2]]) :=
 of_any w _ 2 2 [[x, y], [x2, y2]] (sl_row2 h2 (sl_int2 h) (sl_int2 h')) (by omega) (Lib.hid (by simp)) (Lib.hid (by simp; omega))
theorem sl_mat2 {K : Nat} {w : World} {g : Nat} {t : TypeId} {b b' : Bool} {a a2 a' a2' : Option Addr} {n c n2 c2 n' c' n2' c2' : Nat} {x y : Int × List (List Int)} (h : Blk w g t #[.bool b, .slice a n c, .slice a2 n2 c2, .bool b', .slice a' n' c', .slice a2' n2' c2']) (hx : MatS K w b a n c a2 n2 c2 x.1 x.2) (hy : MatS K w b' a' n' c' a2' n2' c2' y.1 y.2) : Sl (rMatK K) 0 w (some ⟨g, 0, none⟩) 2 2 [x, y] := by
 refine ⟨rfl, Nat.le_refl _, by omega, by simp, fun i hi => ?_⟩
 match i, hi with
 | 0, _ =>
  refine ⟨g, 0, [.bool b, .slice a n c, .slice a2 n2 c2], rfl, ⟨_, _, _, _, _, _, _, rfl, hx⟩, fun j hj => ⟨Nat.zero_le _, ?_, h.free _⟩⟩
  match j, hj with
  | 0, _ => exact h.cell (i := 0) rfl
  | 1, _ => exact h.cell (i := 1) rfl
  | 2, _ => exact h.cell (i := 2) rfl
 | 1, _ =>
  refine ⟨g, 0, [.bool b', .slice a' n' c', .slice a2' n2' c2'], rfl, ⟨_, _, _, _, _, _, _, rfl, hy⟩, fun j hj => ⟨Nat.zero_le _, ?_, h.free _⟩⟩
  match j, hj with
  | 0, _ => exact h.cell (i := 3) rfl
  | 1, _ => exact h.cell (i := 4) rfl
  | 2, _ => exact h.cell (i := 5) rfl
example : blkDen [(1, [[1]]), (1, [[2]])] = 1 := by decide
example : blkRows 2 1 [(1, [[1]]), (1, [[2]])] 0 = [[1, 0], [0, 2]] := by decide
theorem of_lit2 (w : World) (x y : Int) (hx : -9223372036854775808 ≤ x ∧ x ≤ 9223372036854775807) (hy : -9223372036854775808 ≤ y ∧ y ≤ 9223372036854775807) :
  Calls Tryz.prog 76 #[.slice (some ⟨w.heap.size + 1, 0, none⟩) 1 1] ((w.alloc (Obj.cells #[.int .i64 x, .int .i64 y] 2)).alloc (Obj.cells #[.slice (some ⟨w.heap.size, 0, none⟩) 2 2] 111)).drew (RFrom w 1 [[x, y]]) := by
 have y0 := Blk.new w 2 #[.int .i64 x, .int .i64 y]
 have y2 := Blk.new (w.alloc (Obj.cells #[.int .i64 x, .int .i64 y] 2)) 111 #[.slice (some ⟨w.heap.size, 0, none⟩) 2 2]
 replace y0 := y0.ext ((Below.refl _ _).alloc (Nat.le_refl _) (Obj.cells #[.slice (some ⟨w.heap.size, 0, none⟩) 2 2] 111))
 have hEW : Ext w ((w.alloc (Obj.cells #[.int .i64 x, .int .i64 y] 2)).alloc (Obj.cells #[.slice (some ⟨w.heap.size, 0, none⟩) 2 2] 111)) := (((Below.refl _ w).alloc (by simp) _).alloc (by simp) _)
 generalize hgW : (w.alloc (Obj.cells #[.int .i64 x, .int .i64 y] 2)).alloc (Obj.cells #[.slice (some ⟨w.heap.size, 0, none⟩) 2 2] 111) = W at *
 clear hgW
 simp only [World.size_alloc] at y2
 have y0_ne_y2 : ¬ w.heap.size = w.heap.size + 1 := by omega
 have y2_ne_y0 : ¬ w.heap.size + 1 = w.heap.size := by omega
 replace y0_0 := y0.cell (i := 0) rfl
 replace y0_1 := y0.cell (i := 1) rfl
 replace y2_0 := y2.cell (i := 0) rfl
 refine (of_row2 W.drew w.heap.size (w.heap.size + 1) _ _ x y y0 y2 hx hy).mono ?_
 rintro e w2 ⟨a6, n6, c6, a7, n7, c7, rfl, h6, h7, hE2⟩
 exact ⟨a6, n6, c6, a7, n7, c7, rfl, h6.mono hEW.size (Kept.refl _ _), h7.mono hEW.size (Kept.refl _ _), Ext.trans hEW.drew hE2⟩
theorem of_lits_a (w : World) (x y x2 y2 : Int) (hx : -9223372036854775808 ≤ x ∧ x ≤ 9223372036854775807) (hy : -9223372036854775808 ≤ y ∧ y ≤ 9223372036854775807) (hx2 : -9223372036854775808 ≤ x2 ∧ x2 ≤ 9223372036854775807) (hy2 : -9223372036854775808 ≤ y2 ∧ y2 ≤ 9223372036854775807) :
  Calls Tryz.prog 76 #[.slice (some ⟨w.heap.size + 1 + 1, 0, none⟩) 2 2] ((((w.alloc (Obj.cells #[.int .i64 x, .int .i64 y] 2)).alloc (Obj.cells #[.int .i64 x2, .int .i64 y2] 2)).alloc (Obj.cells #[.slice (some ⟨w.heap.size, 0, none⟩) 2 2, .slice (some ⟨w.heap.size + 1, 0, none⟩) 2 2] 111))) (RFrom w 1 [[x, y], [x2, y2]]) := by
 have y0 := Blk.new w 2 #[.int .i64 x, .int .i64 y]
 have y1 := Blk.new (w.alloc (Obj.cells #[.int .i64 x, .int .i64 y] 2)) 2 #[.int .i64 x2, .int .i64 y2]
 replace y0 := y0.ext ((Below.refl _ _).alloc (Nat.le_refl _) (Obj.cells #[.int .i64 x2, .int .i64 y2] 2))
 have z2 := Blk.new ((w.alloc (Obj.cells #[.int .i64 x, .int .i64 y] 2)).alloc (Obj.cells #[.int .i64 x2, .int .i64 y2] 2)) 111 #[.slice (some ⟨w.heap.size, 0, none⟩) 2 2, .slice (some ⟨w.heap.size + 1, 0, none⟩) 2 2]
 replace y0 := y0.ext ((Below.refl _ _).alloc (Nat.le_refl _) (Obj.cells #[.slice (some ⟨w.heap.size, 0, none⟩) 2 2, .slice (some ⟨w.heap.size + 1, 0, none⟩) 2 2] 111))
 replace y1 := y1.ext ((Below.refl _ _).alloc (Nat.le_refl _) (Obj.cells #[.slice (some ⟨w.heap.size, 0, none⟩) 2 2, .slice (some ⟨w.heap.size + 1, 0, none⟩) 2 2] 111))
 have hEW : Ext w (((w.alloc (Obj.cells #[.int .i64 x, .int .i64 y] 2)).alloc (Obj.cells #[.int .i64 x2, .int .i64 y2] 2)).alloc (Obj.cells #[.slice (some ⟨w.heap.size, 0, none⟩) 2 2, .slice (some ⟨w.heap.size + 1, 0, none⟩) 2 2] 111)) := ((((Below.refl _ w).alloc (by simp) _).alloc (by simp) _).alloc (by simp; omega) _)
 generalize hgW : ((w.alloc (Obj.cells #[.int .i64 x, .int .i64 y] 2)).alloc (Obj.cells #[.int .i64 x2, .int .i64 y2] 2)).alloc (Obj.cells #[.slice (some ⟨w.heap.size, 0, none⟩) 2 2, .slice (some ⟨w.heap.size + 1, 0, none⟩) 2 2] 111) = W at *
 clear hgW
 simp only [World.size_alloc] at y1 z2
 have y0_ne_y1 : ¬ w.heap.size = w.heap.size + 1 := by omega
 have y0_ne_z2 : ¬ w.heap.size = w.heap.size + 1 + 1 := by omega
 have y1_ne_y0 : ¬ w.heap.size + 1 = w.heap.size := by omega
 have y1_ne_z2 : ¬ w.heap.size + 1 = w.heap.size + 1 + 1 := by omega
 have z2_ne_y0 : ¬ w.heap.size + 1 + 1 = w.heap.size := by omega
 have z2_ne_y1 : ¬ w.heap.size + 1 + 1 = w.heap.size + 1 := by omega
 replace y0_0 := y0.cell (i := 0) rfl
 replace y0_1 := y0.cell (i := 1) rfl
 replace y1_0 := y1.cell (i := 0) rfl
 replace y1_1 := y1.cell (i := 1) rfl
 replace z2_0 := z2.cell (i := 0) rfl
 replace z2_1 := z2.cell (i := 1) rfl
 refine (of_rows2 W (w.heap.size) (w.heap.size + 1 + 1) (w.heap.size + 1) _ _ _ x y _ _ y0 y1 z2 hx hy hx2 hy2).mono ?_
 rintro e w2 ⟨a6, n6, c6, a7, n7, c7, rfl, h6, h7, hE2⟩
 exact ⟨a6, n6, c6, a7, n7, c7, rfl, h6.mono hEW.size (Kept.refl _ _), h7.mono hEW.size (Kept.refl _ _), Ext.trans hEW hE2⟩
theorem of_lits_b (w : World) (x y x2 y2 : Int) (hx : -9223372036854775808 ≤ x ∧ x ≤ 9223372036854775807) (hy : -9223372036854775808 ≤ y ∧ y ≤ 9223372036854775807) (hx2 : -9223372036854775808 ≤ x2 ∧ x2 ≤ 9223372036854775807) (hy2 : -9223372036854775808 ≤ y2 ∧ y2 ≤ 9223372036854775807) :
  Calls Tryz.prog 76 #[.slice (some ⟨w.heap.size + 1 + 1, 0, none⟩) 2 2] ((((w.alloc (Obj.cells #[.int .i64 x, .int .i64 y] 2)).alloc (Obj.cells #[.int .i64 x2, .int .i64 y2] 2)).alloc (Obj.cells #[.slice (some ⟨w.heap.size, 0, none⟩) 2 2, .slice (some ⟨w.heap.size + 1, 0, none⟩) 2 2] 111)).drew) (RFrom w 1 [[x, y], [x2, y2]]) := by
 have y0 := Blk.new w 2 #[.int .i64 x, .int .i64 y]
 have y1 := Blk.new (w.alloc (Obj.cells #[.int .i64 x, .int .i64 y] 2)) 2 #[.int .i64 x2, .int .i64 y2]
 replace y0 := y0.ext ((Below.refl _ _).alloc (Nat.le_refl _) (Obj.cells #[.int .i64 x2, .int .i64 y2] 2))
 have z2 := Blk.new ((w.alloc (Obj.cells #[.int .i64 x, .int .i64 y] 2)).alloc (Obj.cells #[.int .i64 x2, .int .i64 y2] 2)) 111 #[.slice (some ⟨w.heap.size, 0, none⟩) 2 2, .slice (some ⟨w.heap.size + 1, 0, none⟩) 2 2]
 replace y0 := y0.ext ((Below.refl _ _).alloc (Nat.le_refl _) (Obj.cells #[.slice (some ⟨w.heap.size, 0, none⟩) 2 2, .slice (some ⟨w.heap.size + 1, 0, none⟩) 2 2] 111))
 replace y1 := y1.ext ((Below.refl _ _).alloc (Nat.le_refl _) (Obj.cells #[.slice (some ⟨w.heap.size, 0, none⟩) 2 2, .slice (some ⟨w.heap.size + 1, 0, none⟩) 2 2] 111))
 have hEW : Ext w (((w.alloc (Obj.cells #[.int .i64 x, .int .i64 y] 2)).alloc (Obj.cells #[.int .i64 x2, .int .i64 y2] 2)).alloc (Obj.cells #[.slice (some ⟨w.heap.size, 0, none⟩) 2 2, .slice (some ⟨w.heap.size + 1, 0, none⟩) 2 2] 111)) := ((((Below.refl _ w).alloc (by simp) _).alloc (by simp) _).alloc (by simp; omega) _)
 generalize hgW : ((w.alloc (Obj.cells #[.int .i64 x, .int .i64 y] 2)).alloc (Obj.cells #[.int .i64 x2, .int .i64 y2] 2)).alloc (Obj.cells #[.slice (some ⟨w.heap.size, 0, none⟩) 2 2, .slice (some ⟨w.heap.size + 1, 0, none⟩) 2 2] 111) = W at *
 clear hgW
 simp only [World.size_alloc] at y1 z2
 have y0_ne_y1 : ¬ w.heap.size = w.heap.size + 1 := by omega
 have y0_ne_z2 : ¬ w.heap.size = w.heap.size + 1 + 1 := by omega
 have y1_ne_y0 : ¬ w.heap.size + 1 = w.heap.size := by omega
 have y1_ne_z2 : ¬ w.heap.size + 1 = w.heap.size + 1 + 1 := by omega
 have z2_ne_y0 : ¬ w.heap.size + 1 + 1 = w.heap.size := by omega
 have z2_ne_y1 : ¬ w.heap.size + 1 + 1 = w.heap.size + 1 := by omega
 replace y0_0 := y0.cell (i := 0) rfl
 replace y0_1 := y0.cell (i := 1) rfl
 replace y1_0 := y1.cell (i := 0) rfl
 replace y1_1 := y1.cell (i := 1) rfl
 replace z2_0 := z2.cell (i := 0) rfl
 replace z2_1 := z2.cell (i := 1) rfl
 refine (of_rows2 W.drew (w.heap.size) (w.heap.size + 1 + 1) (w.heap.size + 1) _ _ _ x y _ _ y0 y1 z2 hx hy hx2 hy2).mono ?_
 rintro e w2 ⟨a6, n6, c6, a7, n7, c7, rfl, h6, h7, hE2⟩
 exact ⟨a6, n6, c6, a7, n7, c7, rfl, h6.mono hEW.size (Kept.refl _ _), h7.mono hEW.size (Kept.refl _ _), Ext.trans hEW.drew hE2⟩
theorem of_lits_c (w : World) (x y x2 y2 : Int) (hx : -9223372036854775808 ≤ x ∧ x ≤ 9223372036854775807) (hy : -9223372036854775808 ≤ y ∧ y ≤ 9223372036854775807) (hx2 : -9223372036854775808 ≤ x2 ∧ x2 ≤ 9223372036854775807) (hy2 : -9223372036854775808 ≤ y2 ∧ y2 ≤ 9223372036854775807) :
  Calls Tryz.prog 76 #[.slice (some ⟨w.heap.size + 1 + 1, 0, none⟩) 2 2] ((((w.alloc (Obj.cells #[.int .i64 x2, .int .i64 y2] 2)).alloc (Obj.cells #[.int .i64 x, .int .i64 y] 2)).alloc (Obj.cells #[.slice (some ⟨w.heap.size + 1, 0, none⟩) 2 2, .slice (some ⟨w.heap.size, 0, none⟩) 2 2] 111))) (RFrom w 1 [[x, y], [x2, y2]]) := by
 have y1 := Blk.new w 2 #[.int .i64 x2, .int .i64 y2]
 have y0 := Blk.new (w.alloc (Obj.cells #[.int .i64 x2, .int .i64 y2] 2)) 2 #[.int .i64 x, .int .i64 y]
 replace y1 := y1.ext ((Below.refl _ _).alloc (Nat.le_refl _) (Obj.cells #[.int .i64 x, .int .i64 y] 2))
 have z2 := Blk.new ((w.alloc (Obj.cells #[.int .i64 x2, .int .i64 y2] 2)).alloc (Obj.cells #[.int .i64 x, .int .i64 y] 2)) 111 #[.slice (some ⟨w.heap.size + 1, 0, none⟩) 2 2, .slice (some ⟨w.heap.size, 0, none⟩) 2 2]
 replace y1 := y1.ext ((Below.refl _ _).alloc (Nat.le_refl _) (Obj.cells #[.slice (some ⟨w.heap.size + 1, 0, none⟩) 2 2, .slice (some ⟨w.heap.size, 0, none⟩) 2 2] 111))
 replace y0 := y0.ext ((Below.refl _ _).alloc (Nat.le_refl _) (Obj.cells #[.slice (some ⟨w.heap.size + 1, 0, none⟩) 2 2, .slice (some ⟨w.heap.size, 0, none⟩) 2 2] 111))
 have hEW : Ext w (((w.alloc (Obj.cells #[.int .i64 x2, .int .i64 y2] 2)).alloc (Obj.cells #[.int .i64 x, .int .i64 y] 2)).alloc (Obj.cells #[.slice (some ⟨w.heap.size + 1, 0, none⟩) 2 2, .slice (some ⟨w.heap.size, 0, none⟩) 2 2] 111)) := ((((Below.refl _ w).alloc (by simp) _).alloc (by simp) _).alloc (by simp; omega) _)
 generalize hgW : ((w.alloc (Obj.cells #[.int .i64 x2, .int .i64 y2] 2)).alloc (Obj.cells #[.int .i64 x, .int .i64 y] 2)).alloc (Obj.cells #[.slice (some ⟨w.heap.size + 1, 0, none⟩) 2 2, .slice (some ⟨w.heap.size, 0, none⟩) 2 2] 111) = W at *
 clear hgW
 simp only [World.size_alloc] at y0 z2
 have y1_ne_y0 : ¬ w.heap.size = w.heap.size + 1 := by omega
 have y1_ne_z2 : ¬ w.heap.size = w.heap.size + 1 + 1 := by omega
 have y0_ne_y1 : ¬ w.heap.size + 1 = w.heap.size := by omega
 have y0_ne_z2 : ¬ w.heap.size + 1 = w.heap.size + 1 + 1 := by omega
 have z2_ne_y1 : ¬ w.heap.size + 1 + 1 = w.heap.size := by omega
 have z2_ne_y0 : ¬ w.heap.size + 1 + 1 = w.heap.size + 1 := by omega
 replace y1_0 := y1.cell (i := 0) rfl
 replace y1_1 := y1.cell (i := 1) rfl
 replace y0_0 := y0.cell (i := 0) rfl
 replace y0_1 := y0.cell (i := 1) rfl
 replace z2_0 := z2.cell (i := 0) rfl
 replace z2_1 := z2.cell (i := 1) rfl
 refine (of_rows2 W (w.heap.size + 1) (w.heap.size + 1 + 1) (w.heap.size) _ _ _ x y _ _ y0 y1 z2 hx hy hx2 hy2).mono ?_
 rintro e w2 ⟨a6, n6, c6, a7, n7, c7, rfl, h6, h7, hE2⟩
 exact ⟨a6, n6, c6, a7, n7, c7, rfl, h6.mono hEW.size (Kept.refl _ _), h7.mono hEW.size (Kept.refl _ _), Ext.trans hEW hE2⟩
theorem of_lits_d (w : World) (x y x2 y2 : Int) (hx : -9223372036854775808 ≤ x ∧ x ≤ 9223372036854775807) (hy : -9223372036854775808 ≤ y ∧ y ≤ 9223372036854775807) (hx2 : -9223372036854775808 ≤ x2 ∧ x2 ≤ 9223372036854775807) (hy2 : -9223372036854775808 ≤ y2 ∧ y2 ≤ 9223372036854775807) :
  Calls Tryz.prog 76 #[.slice (some ⟨w.heap.size + 1 + 1, 0, none⟩) 2 2] ((((w.alloc (Obj.cells #[.int .i64 x2, .int .i64 y2] 2)).alloc (Obj.cells #[.int .i64 x, .int .i64 y] 2)).alloc (Obj.cells #[.slice (some ⟨w.heap.size + 1, 0, none⟩) 2 2, .slice (some ⟨w.heap.size, 0, none⟩) 2 2] 111)).drew) (RFrom w 1 [[x, y], [x2, y2]]) := by
 have y1 := Blk.new w 2 #[.int .i64 x2, .int .i64 y2]
 have y0 := Blk.new (w.alloc (Obj.cells #[.int .i64 x2, .int .i64 y2] 2)) 2 #[.int .i64 x, .int .i64 y]
 replace y1 := y1.ext ((Below.refl _ _).alloc (Nat.le_refl _) (Obj.cells #[.int .i64 x, .int .i64 y] 2))
 have z2 := Blk.new ((w.alloc (Obj.cells #[.int .i64 x2, .int .i64 y2] 2)).alloc (Obj.cells #[.int .i64 x, .int .i64 y] 2)) 111 #[.slice (some ⟨w.heap.size + 1, 0, none⟩) 2 2, .slice (some ⟨w.heap.size, 0, none⟩) 2 2]
 replace y1 := y1.ext ((Below.refl _ _).alloc (Nat.le_refl _) (Obj.cells #[.slice (some ⟨w.heap.size + 1, 0, none⟩) 2 2, .slice (some ⟨w.heap.size, 0, none⟩) 2 2] 111))
 replace y0 := y0.ext ((Below.refl _ _).alloc (Nat.le_refl _) (Obj.cells #[.slice (some ⟨w.heap.size + 1, 0, none⟩) 2 2, .slice (some ⟨w.heap.size, 0, none⟩) 2 2] 111))
 have hEW : Ext w (((w.alloc (Obj.cells #[.int .i64 x2, .int .i64 y2] 2)).alloc (Obj.cells #[.int .i64 x, .int .i64 y] 2)).alloc (Obj.cells #[.slice (some ⟨w.heap.size + 1, 0, none⟩) 2 2, .slice (some ⟨w.heap.size, 0, none⟩) 2 2] 111)) := ((((Below.refl _ w).alloc (by simp) _).alloc (by simp) _).alloc (by simp; omega) _)
 generalize hgW : ((w.alloc (Obj.cells #[.int .i64 x2, .int .i64 y2] 2)).alloc (Obj.cells #[.int .i64 x, .int .i64 y] 2)).alloc (Obj.cells #[.slice (some ⟨w.heap.size + 1, 0, none⟩) 2 2, .slice (some ⟨w.heap.size, 0, none⟩) 2 2] 111) = W at *
 clear hgW
 simp only [World.size_alloc] at y0 z2
 have y1_ne_y0 : ¬ w.heap.size = w.heap.size + 1 := by omega
 have y1_ne_z2 : ¬ w.heap.size = w.heap.size + 1 + 1 := by omega
 have y0_ne_y1 : ¬ w.heap.size + 1 = w.heap.size := by omega
 have y0_ne_z2 : ¬ w.heap.size + 1 = w.heap.size + 1 + 1 := by omega
 have z2_ne_y1 : ¬ w.heap.size + 1 + 1 = w.heap.size := by omega
 have z2_ne_y0 : ¬ w.heap.size + 1 + 1 = w.heap.size + 1 := by omega
 replace y1_0 := y1.cell (i := 0) rfl
 replace y1_1 := y1.cell (i := 1) rfl
 replace y0_0 := y0.cell (i := 0) rfl
 replace y0_1 := y0.cell (i := 1) rfl
 replace z2_0 := z2.cell (i := 0) rfl
 replace z2_1 := z2.cell (i := 1) rfl
 refine (of_rows2 W.drew (w.heap.size + 1) (w.heap.size + 1 + 1) (w.heap.size) _ _ _ x y _ _ y0 y1 z2 hx hy hx2 hy2).mono ?_
 rintro e w2 ⟨a6, n6, c6, a7, n7, c7, rfl, h6, h7, hE2⟩
 exact ⟨a6, n6, c6, a7, n7, c7, rfl, h6.mono hEW.size (Kept.refl _ _), h7.mono hEW.size (Kept.refl _ _), Ext.trans hEW.drew hE2⟩
theorem mat_field1 (v0 v1 v2 : Value) (w : World) : (Instr.field 28 (.agg #[v0, v1, v2]) 1).run Tryz.prog w = .ok v2 w := by kernel_rfl
set_option maxRecDepth 100000 in
set_option maxHeartbeats 8000000 in
theorem lives_yes (w : World) : Calls Tryz.prog 21 #[] w (Yes w) := by
 go_enter Tryz.func21, Tryz.ntmps21
 go_wp2_with fail
 refine (r3Of_any (-2) w (by omega) (by omega)).mono ?_
 rintro e w1 ⟨a5, n5, c5, rfl, h5, hE1⟩
 rw [show decide ((-2 : Int) < 0) = true from rfl]
 have H5 := Lib.hid h5
 have HE1 := Lib.hid hE1
 clear h5 hE1
 go_wp2_with fail
 have y := Blk.new w1 2 #[.int .i64 2, .int .i64 4]
 have y2 := Blk.new (w1.alloc (Obj.cells #[.int .i64 2, .int .i64 4] 2)) 111 #[.slice (some ⟨w1.heap.size, 0, none⟩) 2 2]
 replace y := y.ext ((Below.refl _ _).alloc (Nat.le_refl _) (Obj.cells #[.slice (some ⟨w1.heap.size, 0, none⟩) 2 2] 111))
 have hEW2 : Ext w1 ((w1.alloc (Obj.cells #[.int .i64 2, .int .i64 4] 2)).alloc (Obj.cells #[.slice (some ⟨w1.heap.size, 0, none⟩) 2 2] 111)) := (((Below.refl _ w1).alloc (by simp) _).alloc (by simp) _)
 generalize hgW2 : (w1.alloc (Obj.cells #[.int .i64 2, .int .i64 4] 2)).alloc (Obj.cells #[.slice (some ⟨w1.heap.size, 0, none⟩) 2 2] 111) = W2 at *
 clear hgW2
 simp only [World.size_alloc] at y2
 have y_ne_y2 : ¬ w1.heap.size = w1.heap.size + 1 := by omega
 have y2_ne_y : ¬ w1.heap.size + 1 = w1.heap.size := by omega
 replace y_0 := y.cell (i := 0) rfl
 replace y_1 := y.cell (i := 1) rfl
 replace y2_0 := y2.cell (i := 0) rfl
 refine (of_row2 W2 w1.heap.size (w1.heap.size + 1) _ _ 2 4 y y2 (by omega) (by omega)).mono ?_
 rintro e w2 ⟨a6, n6, c6, a7, n7, c7, rfl, h6, h7, hE2⟩
 have hEb := Ext.trans hEW2 hE2
 have HM := Lib.hid (matS_of (K := 1) (b := true) ((H5.out.ext (Nat.le_refl _) hEb).mono (Nat.zero_le _) (Kept.refl _ _)) rfl (h7.mono (Nat.zero_le _) (Kept.refl _ _)) (by decide) (by decide))
 have HE2 := Lib.hid (Ext.trans HE1.out hEb)
 have hf1 := mat_field1
 clear h6 h7 hE2 hEW2 hEb y y_0 y_1 y2 y2_0
 go_wp2_with fail
 refine (qnorm_any 1 (by omega) w2 true a5 a7 n5 c5 n7 c7 (-2) [[2, 4]] HM.out (Lib.hid (by decide)) (by have := HM.out; obtain ⟨_, _, _, _, h⟩ := this; rw [← h.len]; decide) (Lib.hid (by decide))).mono ?_
 rw [show madeDen (-2) [[2, 4]] = 1 by decide, show madeRows (-2) [[2, 4]] = [[-1, -2]] by decide]
 rintro e w3 ⟨a8, n8, c8, a9, n9, c9, rfl, h8, h9, hE3⟩
 rw [show decide ((1 : Int) < 0) = false from rfl]
 have H8 := Lib.hid h8
 have H9 := Lib.hid h9
 have HE3 := Lib.hid (Ext.trans HE2.out hE3)
 clear h8 h9 hE3
 go_wp2_with fail
 have m := Blk.new w3 28 #[.bool false, .slice a8 n8 c8, .slice a9 n9 c9]
 have y := Blk.new (w3.alloc (Obj.cells #[.bool false, .slice a8 n8 c8, .slice a9 n9 c9] 28)) 2 #[.int .i64 1]
 replace m := m.ext ((Below.refl _ _).alloc (Nat.le_refl _) (Obj.cells #[.int .i64 1] 2))
 have y2 := Blk.new ((w3.alloc (Obj.cells #[.bool false, .slice a8 n8 c8, .slice a9 n9 c9] 28)).alloc (Obj.cells #[.int .i64 1] 2)) 111 #[.slice (some ⟨w3.heap.size + 1, 0, none⟩) 1 1]
 replace m := m.ext ((Below.refl _ _).alloc (Nat.le_refl _) (Obj.cells #[.slice (some ⟨w3.heap.size + 1, 0, none⟩) 1 1] 111))
 replace y := y.ext ((Below.refl _ _).alloc (Nat.le_refl _) (Obj.cells #[.slice (some ⟨w3.heap.size + 1, 0, none⟩) 1 1] 111))
 have hEW4 : Ext w3 (((w3.alloc (Obj.cells #[.bool false, .slice a8 n8 c8, .slice a9 n9 c9] 28)).alloc (Obj.cells #[.int .i64 1] 2)).alloc (Obj.cells #[.slice (some ⟨w3.heap.size + 1, 0, none⟩) 1 1] 111)) := ((((Below.refl _ w3).alloc (by simp) _).alloc (by simp) _).alloc (by simp; omega) _)
 generalize hgW4 : ((w3.alloc (Obj.cells #[.bool false, .slice a8 n8 c8, .slice a9 n9 c9] 28)).alloc (Obj.cells #[.int .i64 1] 2)).alloc (Obj.cells #[.slice (some ⟨w3.heap.size + 1, 0, none⟩) 1 1] 111) = W4 at *
 clear hgW4
 simp only [World.size_alloc] at y y2
 have m_ne_y : ¬ w3.heap.size = w3.heap.size + 1 := by omega
 have m_ne_y2 : ¬ w3.heap.size = w3.heap.size + 1 + 1 := by omega
 have y_ne_m : ¬ w3.heap.size + 1 = w3.heap.size := by omega
 have y_ne_y2 : ¬ w3.heap.size + 1 = w3.heap.size + 1 + 1 := by omega
 have y2_ne_m : ¬ w3.heap.size + 1 + 1 = w3.heap.size := by omega
 have y2_ne_y : ¬ w3.heap.size + 1 + 1 = w3.heap.size + 1 := by omega
 replace m_0 := m.cell (i := 0) rfl
 replace m_1 := m.cell (i := 1) rfl
 replace m_2 := m.cell (i := 2) rfl
 replace y_0 := y.cell (i := 0) rfl
 replace y2_0 := y2.cell (i := 0) rfl
 refine (of_row1 W4 (w3.heap.size + 1) (w3.heap.size + 1 + 1) _ _ 1 y y2 (by omega)).mono ?_
 rintro e w4 ⟨a10, n10, c10, a11, n11, c11, rfl, h10, h11, hE4⟩
 replace m := m.ext hE4; replace m_0 := m.cell (i := 0) rfl; replace m_1 := m.cell (i := 1) rfl; replace m_2 := m.cell (i := 2) rfl
 have HE4 := Lib.hid (Ext.trans hEW4 hE4)
 have HQ1 := Lib.hid (matS_of (K := 1) (b := false) (h10.mono (Nat.zero_le _) (Kept.refl _ _)) rfl (h11.mono (Nat.zero_le _) (Kept.refl _ _)) (by decide) (by decide) : MatS 1 w4 false a10 n10 c10 a11 n11 c11 1 [[1]])
 clear h10 h11 hE4 hEW4 y y_0 y2 y2_0
 go_wp2_with fail
 have y := Blk.new w4 2 #[.int .i64 2]
 have y2 := Blk.new (w4.alloc (Obj.cells #[.int .i64 2] 2)) 111 #[.slice (some ⟨w4.heap.size, 0, none⟩) 1 1]
 replace y := y.ext ((Below.refl _ _).alloc (Nat.le_refl _) (Obj.cells #[.slice (some ⟨w4.heap.size, 0, none⟩) 1 1] 111))
 have hEW5 : Ext w4 ((w4.alloc (Obj.cells #[.int .i64 2] 2)).alloc (Obj.cells #[.slice (some ⟨w4.heap.size, 0, none⟩) 1 1] 111)) := (((Below.refl _ w4).alloc (by simp) _).alloc (by simp) _)
 generalize hgW5 : (w4.alloc (Obj.cells #[.int .i64 2] 2)).alloc (Obj.cells #[.slice (some ⟨w4.heap.size, 0, none⟩) 1 1] 111) = W5 at *
 clear hgW5
 simp only [World.size_alloc] at y2
 have y_ne_y2 : ¬ w4.heap.size = w4.heap.size + 1 := by omega
 have y2_ne_y : ¬ w4.heap.size + 1 = w4.heap.size := by omega
 replace y_0 := y.cell (i := 0) rfl
 replace y2_0 := y2.cell (i := 0) rfl
 replace m := m.ext hEW5; replace m_0 := m.cell (i := 0) rfl; replace m_1 := m.cell (i := 1) rfl; replace m_2 := m.cell (i := 2) rfl
 refine (of_row1 W5 w4.heap.size (w4.heap.size + 1) _ _ 2 y y2 (by omega)).mono ?_
 rintro e w5 ⟨a12, n12, c12, a13, n13, c13, rfl, h12, h13, hE5⟩
 replace m := m.ext hE5; replace m_0 := m.cell (i := 0) rfl; replace m_1 := m.cell (i := 1) rfl; replace m_2 := m.cell (i := 2) rfl
 have HE5 := Lib.hid (Ext.trans hEW5 hE5)
 have HQ2 := Lib.hid (matS_of (K := 1) (b := false) (h12.mono (Nat.zero_le _) (Kept.refl _ _)) rfl (h13.mono (Nat.zero_le _) (Kept.refl _ _)) (by decide) (by decide) : MatS 1 w5 false a12 n12 c12 a13 n13 c13 1 [[2]])
 clear h12 h13 hE5 hEW5 y y_0 y2 y2_0
 go_wp2_with fail
 have HQ := Lib.hid (⟨HQ1.out, HQ2.out, HE5.out⟩ : _ ∧ _ ∧ _)
 have y := Blk.new w5 28 #[.bool false, .slice a10 n10 c10, .slice a11 n11 c11, .bool false, .slice a12 n12 c12, .slice a13 n13 c13]
 have hEW6 : Ext w5 (w5.alloc (Obj.cells #[.bool false, .slice a10 n10 c10, .slice a11 n11 c11, .bool false, .slice a12 n12 c12, .slice a13 n13 c13] 28)) := ((Below.refl _ w5).alloc (by simp) _)
 generalize hgW6 : w5.alloc (Obj.cells #[.bool false, .slice a10 n10 c10, .slice a11 n11 c11, .bool false, .slice a12 n12 c12, .slice a13 n13 c13] 28) = W6 at *
 clear hgW6
 replace y_0 := y.cell (i := 0) rfl
 replace y_1 := y.cell (i := 1) rfl
 replace y_2 := y.cell (i := 2) rfl
 replace y_3 := y.cell (i := 3) rfl
 replace y_4 := y.cell (i := 4) rfl
 replace y_5 := y.cell (i := 5) rfl
 replace m := m.ext hEW6; replace m_0 := m.cell (i := 0) rfl; replace m_1 := m.cell (i := 1) rfl; replace m_2 := m.cell (i := 2) rfl
 refine (blocks_any 1 1 2 2 (by omega) W6 (some ⟨w5.heap.size, 0, none⟩) 2 2 [(1, [[1]]), (1, [[2]])] (sl_mat2 y (HQ.out.1.ext (Ext.trans HE5.out hEW6)) (HQ.out.2.1.ext hEW6)) (Lib.hid (by decide)) 1 (Lib.hid (by decide)) (by decide) (Lib.hid (by decide)) (by omega) (Lib.hid (by decide)) (by omega) (Lib.hid (by decide))).mono ?_
 rw [show blkRows 2 1 [(1, [[1]]), (1, [[2]])] 0 = [[1, 0], [0, 2]] by decide, show madeDen 1 [[1, 0], [0, 2]] = 1 by decide, show madeRows 1 [[1, 0], [0, 2]] = [[1, 0], [0, 2]] by decide]
 rintro e w6 ⟨a14, n14, c14, a15, n15, c15, rfl, h14, h15, hE6⟩
 rw [show decide ((1 : Int) < 0) = false from rfl]
 replace m := m.ext hE6; replace m_0 := m.cell (i := 0) rfl; replace m_1 := m.cell (i := 1) rfl; replace m_2 := m.cell (i := 2) rfl
 have HE7 := Lib.hid (Ext.trans HE4.out (Ext.trans HE5.out (Ext.trans hEW6 hE6)))
 have HE8 := Lib.hid (Ext.trans HE3.out HE7.out)
 have H14 := Lib.hid h14
 have H15 := Lib.hid h15
 have hms := m.lt
 clear h14 h15 hE6 hEW6 y y_0 y_1 y_2 y_3 y_4 y_5
 go_wp2_with fail
 have m3 : Blk (w6.alloc (Obj.cells #[.bool false, .slice a14 n14 c14, .slice a15 n15 c15] 28)) w6.heap.size 28 #[.bool false, .slice a14 n14 c14, .slice a15 n15 c15] := Blk.new _ _ _
 have hE9 : Ext w6 (w6.alloc (Obj.cells #[.bool false, .slice a14 n14 c14, .slice a15 n15 c15] 28)) := (Below.refl _ _).alloc (Nat.le_refl _) _
 skip
 replace m := m.ext hE9; replace m_0 := m.cell (i := 0) rfl; replace m_1 := m.cell (i := 1) rfl; replace m_2 := m.cell (i := 2) rfl; replace m_f0 := m.free 0; replace m_f1 := m.free 1; replace m_f2 := m.free 2; replace m_lt := m.lt
 replace m3_0 := m3.cell (i := 0) rfl
 replace m3_1 := m3.cell (i := 1) rfl
 replace m3_2 := m3.cell (i := 2) rfl
 replace m3_f0 := m3.free 0
 replace m3_f1 := m3.free 1
 replace m3_f2 := m3.free 2
 replace m3_lt := m3.lt
 generalize (w6.alloc (Obj.cells #[.bool false, .slice a14 n14 c14, .slice a15 n15 c15] 28)) = w7 at *
 have h8 := Sl.zero (H8.out.ext (Nat.le_refl _) (Ext.trans HE7.out hE9))
 have h9 := rawRows (H9.out.ext (Nat.le_refl _) (Ext.trans HE7.out hE9))
 have h14 := Sl.zero (H14.out.ext (Nat.le_refl _) hE9)
 have h15 := rawRows (H15.out.ext (Nat.le_refl _) hE9)
 have hE0 := Ext.refl w7
 go_region_held3 (fun w' => w'.cell? ⟨w3.heap.size, 0, none⟩ = some (.bool false) ∧ w'.cell? ⟨w3.heap.size, 1, none⟩ = some (.slice a8 n8 c8) ∧ w'.cell? ⟨w3.heap.size, 2, none⟩ = some (.slice a9 n9 c9) ∧ w'.cell? ⟨w6.heap.size, 0, none⟩ = some (.bool false) ∧ w'.cell? ⟨w6.heap.size, 1, none⟩ = some (.slice a14 n14 c14) ∧ w'.cell? ⟨w6.heap.size, 2, none⟩ = some (.slice a15 n15 c15)) (first | exact ⟨m_0, m_1, m_2, m3_0, m3_1, m3_2⟩ | go_keep) (first
  | (go_at_call 76; (with_reducible refine (of_lit2 _ (-1) (-2) (by omega) (by omega)).mono ?_); rintro e w8 ⟨a20, n20, c20, a21, n21, c21, rfl, h20, h21, hE1⟩
     replace m := m.ext hE1; replace m_0 := m.cell (i := 0) rfl; replace m_1 := m.cell (i := 1) rfl; replace m_2 := m.cell (i := 2) rfl; replace m_f0 := m.free 0; replace m_f1 := m.free 1; replace m_f2 := m.free 2; replace m_lt := m.lt; replace m3 := m3.ext hE1; replace m3_0 := m3.cell (i := 0) rfl; replace m3_1 := m3.cell (i := 1) rfl; replace m3_2 := m3.cell (i := 2) rfl; replace m3_f0 := m3.free 0; replace m3_f1 := m3.free 1; replace m3_f2 := m3.free 2; replace m3_lt := m3.lt
     replace h8 := h8.ext (Nat.le_refl _) hE1
     replace h9 := h9.ext (Nat.le_refl _) hE1
     replace h14 := h14.ext (Nat.le_refl _) hE1
     replace h15 := h15.ext (Nat.le_refl _) hE1
     replace h20 := Sl.zero h20
     replace h21 := rawRows h21
     replace hE0 := Ext.trans hE0 hE1)
  | (go_at_call 29; (refine (same_yes _ _ _ _ _ _ _ _ _ _ _ _ _ _ _ _ h8 h20 h9 h21).mono ?_); rintro e w9 ⟨rfl, hE1⟩
     replace m := m.ext hE1; replace m_0 := m.cell (i := 0) rfl; replace m_1 := m.cell (i := 1) rfl; replace m_2 := m.cell (i := 2) rfl; replace m_f0 := m.free 0; replace m_f1 := m.free 1; replace m_f2 := m.free 2; replace m_lt := m.lt; replace m3 := m3.ext hE1; replace m3_0 := m3.cell (i := 0) rfl; replace m3_1 := m3.cell (i := 1) rfl; replace m3_2 := m3.cell (i := 2) rfl; replace m3_f0 := m3.free 0; replace m3_f1 := m3.free 1; replace m3_f2 := m3.free 2; replace m3_lt := m3.lt
     have m3_a0 := fun o1 o2 o3 : Obj => cell_alloc (cell_alloc (cell_alloc m3_0 o1) o2) o3
     have m3_a1 := fun o1 o2 o3 : Obj => cell_alloc (cell_alloc (cell_alloc m3_1 o1) o2) o3
     have m3_a2 := fun o1 o2 o3 : Obj => cell_alloc (cell_alloc (cell_alloc m3_2 o1) o2) o3
     replace h14 := h14.ext (Nat.le_refl _) hE1
     replace h15 := h15.ext (Nat.le_refl _) hE1
     replace hE0 := Ext.trans hE0 hE1)
  | (go_at_call 76; (with_reducible first | refine (of_lits_a _ 1 0 0 2 (by omega) (by omega) (by omega) (by omega)).mono ?_ | refine (of_lits_b _ 1 0 0 2 (by omega) (by omega) (by omega) (by omega)).mono ?_ | refine (of_lits_c _ 1 0 0 2 (by omega) (by omega) (by omega) (by omega)).mono ?_ | refine (of_lits_d _ 1 0 0 2 (by omega) (by omega) (by omega) (by omega)).mono ?_); rintro e w10 ⟨a30, n30, c30, a31, n31, c31, rfl, h30, h31, hE1⟩
     clear h8 h9 h20 h21
     replace m := m.ext hE1; replace m_0 := m.cell (i := 0) rfl; replace m_1 := m.cell (i := 1) rfl; replace m_2 := m.cell (i := 2) rfl; replace m_f0 := m.free 0; replace m_f1 := m.free 1; replace m_f2 := m.free 2; replace m_lt := m.lt; replace m3 := m3.ext hE1; replace m3_0 := m3.cell (i := 0) rfl; replace m3_1 := m3.cell (i := 1) rfl; replace m3_2 := m3.cell (i := 2) rfl; replace m3_f0 := m3.free 0; replace m3_f1 := m3.free 1; replace m3_f2 := m3.free 2; replace m3_lt := m3.lt
     replace h14 := h14.ext (Nat.le_refl _) hE1
     replace h15 := h15.ext (Nat.le_refl _) hE1
     replace h30 := Sl.zero h30
     replace h31 := rawRows h31
     replace hE0 := Ext.trans hE0 hE1)
  | (go_at_call 29; (refine (same_yes _ _ _ _ _ _ _ _ _ _ _ _ _ _ _ _ h14 h30 h15 h31).mono ?_); rintro e w11 ⟨rfl, hE1⟩
     replace m := m.ext hE1; replace m_0 := m.cell (i := 0) rfl; replace m_1 := m.cell (i := 1) rfl; replace m_2 := m.cell (i := 2) rfl; replace m_f0 := m.free 0; replace m_f1 := m.free 1; replace m_f2 := m.free 2; replace m_lt := m.lt; replace m3 := m3.ext hE1; replace m3_0 := m3.cell (i := 0) rfl; replace m3_1 := m3.cell (i := 1) rfl; replace m3_2 := m3.cell (i := 2) rfl; replace m3_f0 := m3.free 0; replace m3_f1 := m3.free 1; replace m3_f2 := m3.free 2; replace m3_lt := m3.lt
     replace hE0 := Ext.trans hE0 hE1))
 all_goals
  go_wp2_with fail
  go_ret
  exact ⟨rfl, Ext.trans HE8.out (Ext.trans hE9 hE0)⟩
end Go.Proofs.YtbhenelehhiakaaGreat
namespace Go.Proofs.YtbhenelehhiakaaGreat
open Go.RowKit
def nrmD (qss : List (List Rat)) : Nat := comDen qss.flatten
def nrmZ (qss : List (List Rat)) : List (List Int) := qss.map fun qs => qs.map (comNum (nrmD qss))
def rawM (zss : List (List Int)) : List (List It) := zss.map fun zs => zs.map rawI
theorem ratv_den_dvd (z d : Int) (hd : d ≠ 0) : (ratv z d).den ∣ d.natAbs := by
 have key : ∀ z d : Int, 0 < d → (ratv z d).den ∣ d.natAbs := fun z d hd => by
  have h1 := ratv_den (z := z) hd
  have h2 : ((Int.gcd z d : Nat) : Int) ∣ d := Int.gcd_dvd_right ..
  obtain ⟨t, ht⟩ := h2
  have hg : ((Int.gcd z d : Nat) : Int) ≠ 0 := fun e => by rw [e, Int.zero_mul] at ht; omega
  have h3 : d / ((Int.gcd z d : Nat) : Int) = t := by
   conv => lhs; lhs; rw [ht]
   exact Int.mul_ediv_cancel_left _ hg
  rw [h3] at h1
  have h4 : (((ratv z d).den : Nat) : Int) ∣ d := ⟨((Int.gcd z d : Nat) : Int), by rw [h1, Int.mul_comm]; exact ht⟩
  have h5 : (((ratv z d).den : Nat) : Int) ∣ ((d.natAbs : Nat) : Int) := by rw [Int.natAbs_of_nonneg (by omega)]; exact h4
  exact Int.natCast_dvd_natCast.1 h5
 by_cases h : 0 < d
 ·exact key z d h
 ·have := key (-z) (-d) (by omega)
  rwa [ratv_neg, Int.natAbs_neg] at this
theorem nrmD_dvd (D : Int) (hD : D ≠ 0) (B : List (List Int)) : nrmD (fracs D B) ∣ D.natAbs := by
 refine comDen_dvd _ _ fun q hq => ?_
 obtain ⟨qs, hqs, hq⟩ := List.mem_flatten.1 hq
 obtain ⟨zs, _, rfl⟩ := List.mem_map.1 hqs
 obtain ⟨z, _, rfl⟩ := List.mem_map.1 hq
 exact ratv_den_dvd z D hD
theorem nrmD_nl (D : Int) (hD : D ≠ 0) (B : List (List Int)) (K : Nat) (h : nl D.natAbs ≤ K) : nl (nrmD (fracs D B)) ≤ K :=
 Nat.le_trans (nl_mono (Nat.le_of_dvd (Int.natAbs_pos.2 hD) (nrmD_dvd D hD B))) h
def RRef (w : World) (qss : List (List Rat)) (e : Ending) (w' : World) : Prop := ∃ a n c a2 n2 c2, e = .returned (.agg #[.bool false, .slice a n c, .slice a2 n2 c2]) ∧ NatS 0 w' a n c (limbs (nrmD qss)) ∧ Sl rInts 0 w' a2 n2 c2 (rawM (nrmZ qss)) ∧ Ext w w'
theorem RFrom.ref {w w' : World} {qss : List (List Rat)} {e : Ending} (h : RFrom w (nrmD qss) (qss.map fun qs => qs.map (comNum (nrmD qss))) e w') : RRef w qss e w' := h.raw
end Go.Proofs.YtbhenelehhiakaaGreat
namespace Go.Proofs.YtbhenelehhiakaaGreat
open Go.RowKit
def RRefB (w : World) (qss : List (List Rat)) (e : Ending) (w' : World) : Prop := ∃ a n c a2 n2 c2, e = .returned (.agg #[.bool false, .slice a n c, .slice a2 n2 c2]) ∧ NatS w.heap.size w' a n c (limbs (nrmD qss)) ∧ Sl rInts w.heap.size w' a2 n2 c2 (rawM (nrmZ qss)) ∧ Ext w w'
theorem RRefB.ref {w w' : World} {qss : List (List Rat)} {e : Ending} (h : RRefB w qss e w') : RRef w qss e w' := by
 obtain ⟨a, n, c, a2, n2, c2, he, h1, h2, hE⟩ := h
 exact ⟨a, n, c, a2, n2, c2, he, h1.mono (Nat.zero_le _) (Kept.refl _ _), h2.mono (Nat.zero_le _) (Kept.refl _ _), hE⟩
def RTab (K r m : Nat) (f : Nat → Nat → Rat) (w : World) (e : Ending) (w' : World) : Prop := ∃ a c F, e = .returned (.slice a r c) ∧ Tab K w.heap.size w' a r c m F f ∧ (0 < m → ∀ g ∈ F, w.heap.size ≤ g ∧ g < w'.heap.size) ∧ Ext w w'
theorem Tab.fst {K B : Nat} {w : World} {a : Option Addr} {r c m : Nat} {F : List Nat} {f : Nat → Nat → Rat} (h : Tab K B w a r c m F f) (hm : 0 < m) : ∀ g ∈ F, B ≤ g ∧ g < w.heap.size := fun g hg => by
 obtain ⟨L, h1, h2, _⟩ := h
 rw [← h2] at hg
 obtain ⟨x, hx, rfl⟩ := List.mem_map.1 hg
 obtain ⟨i, hi, rfl⟩ := List.getElem_of_mem hx
 obtain ⟨_, _, _, _, g1, g2, _⟩ := h1.cells hi hm
 exact ⟨g1, g2⟩
theorem r11Rows_tab (K K3 : Nat) (hK3 : K ≤ K3) (hK : K ≤ 549755813888) (w : World) (b : Bool) (a a2 : Option Addr) (n c n2 c2 : Nat) (d : Int) (zss : List (List Int)) (h : MatS K w b a n c a2 n2 c2 d zss) (hd0 : d ≠ 0) (m : Nat) (hrow : Hid (∀ zs ∈ zss, zs.length = m)) (hn2 : n2 ≤ 1099511627776) (hm : m ≤ 1099511627776) (X : List (List Rat)) (hX : Hid (fracs d zss = X)) :
  Calls Tryz.prog 34 #[.agg #[.bool b, .slice a n c, .slice a2 n2 c2]] w (RTab K3 n2 m (entQ X) w) :=
 (r11Rows_any K hK w b a a2 n c n2 c2 d zss h hd0 m hrow hn2 hm).mono fun e w' hr => by
  rw [hX.out] at hr
  obtain ⟨a, c2, F, rfl, h1, h2, hE⟩ := hr.tab (fun qs hq => by rw [← hX.out] at hq; obtain ⟨zs, hz, rfl⟩ := List.mem_map.1 hq; rw [List.length_map]; exact hrow.out zs hz)
  exact ⟨a, c2, F, rfl, h1.weak hK3 (Nat.le_refl _), fun hm => h1.fst hm, hE⟩
theorem ratK_mk {K B : Nat} {w : World} {q : Rat} {a a2 : Option Addr} {n c n2 c2 : Nat} (h : NatS B w a n c (limbs q.num.natAbs)) (h2 : NatS B w a2 n2 c2 (limbs q.den)) (hn : nl q.num.natAbs ≤ K) (hn2 : nl q.den ≤ K) : (rRatK K).ok B w [.bool (decide (q.num < 0)), .slice a n c, .bool false, .slice a2 n2 c2] q :=
 ⟨_, a, n, c, _, a2, n2, c2, rfl, limbs q.num.natAbs, limbs q.den, h, h2, by rw [ival_limbs]; have := q.den_pos; simp; omega, by rw [ival_norm, ival_limbs]; simp; exact ratv_self q, by have := len_norm h; omega, by have := len_norm h2; omega⟩
theorem nl_ratv {K : Nat} {z d : Int} (hd : d ≠ 0) (hz : nl z.natAbs ≤ K) (h : nl d.natAbs ≤ K) : nl (ratv z d).num.natAbs ≤ K ∧ nl (ratv z d).den ≤ K :=
 ⟨Nat.le_trans (nl_mono (ratv_le z d hd).1) hz, Nat.le_trans (nl_mono (ratv_le z d hd).2) h⟩
theorem entry_nl {K B : Nat} {w : World} {a : Option Addr} {n c : Nat} {zss : List (List Int)} (h : Sl (rIntK K).slice B w a n c zss) (i k : Nat) : nl (entry zss i k).natAbs ≤ K := by
 unfold entry
 cases hi : zss[i]? with
 | none => simp [nl_zero]
 | some zs =>
  simp only [Option.getD_some]
  cases hk : zs[k]? with
  | none => simp [nl_zero]
  | some z =>
   simp only [Option.getD_some]
   obtain ⟨hil, hie⟩ := List.getElem?_eq_some_iff.1 hi
   obtain ⟨hkl, hke⟩ := List.getElem?_eq_some_iff.1 hk
   obtain ⟨b, o, cs, ha, ⟨a1, n1, c1, rfl, h1⟩, hc⟩ := h.at_ i hil
   rw [hie] at h1
   obtain ⟨b2, o2, cs2, ha2, ⟨s, a3, n3, c3, l, rfl, h3, hv, hn⟩, hc2⟩ := h1.at_ k hkl
   rw [hke] at hv
   exact Nat.le_trans (nl_of h3 (Lib.hid hv)) hn
theorem tabQ_ent2 (Q : List (List Rat)) (r m : Nat) (hr : Q.length = r) (hl : ∀ qs ∈ Q, qs.length = m) : tabQ (entQ Q) r m = Q := by rw [← hr]; exact tabQ_ent Q m hl
end Go.Proofs.YtbhenelehhiakaaGreat
namespace Go.Proofs.YtbhenelehhiakaaGreat
open Go.RowKit
def RCopyI (w : World) (b : Bool) (n : Nat) (l : Nt) (e : Ending) (w' : World) : Prop := ∃ a2 c2, e = .returned (.agg #[.bool b, .slice a2 n c2]) ∧ NatS w.heap.size w' a2 n c2 l ∧ Ext w w'
set_option maxRecDepth 100000 in
set_option maxHeartbeats 4000000 in
theorem r3Copy_any (w : World) (b : Bool) (a : Option Addr) (n c : Nat) (l : Nt) (h : NatS 0 w a n c l) (hn : n ≤ 1099511627776) :
  Calls Tryz.prog 78 #[.agg #[.bool b, .slice a n c]] w (RCopyI w b n l) := by
 obtain ⟨i0, hi, hz0, hz1, hz2⟩ := info_parts info_u32
 go_enter Tryz.func78, Tryz.ntmps78
 go_wp2_with fail
 have p0 := Blk.new w 25 #[.bool b, .slice a n c]
 have r0 := Blk.new (w.alloc (Obj.cells #[.bool b, .slice a n c] 25)) 25 #[.bool false, .slice none 0 0]
 replace p0 := p0.ext ((Below.refl _ _).alloc (Nat.le_refl _) (Obj.cells #[.bool false, .slice none 0 0] 25))
 have hEW : Ext w ((w.alloc (Obj.cells #[.bool b, .slice a n c] 25)).alloc (Obj.cells #[.bool false, .slice none 0 0] 25)) := (((Below.refl _ w).alloc (by simp) _).alloc (by simp) _)
 generalize hgW : (w.alloc (Obj.cells #[.bool b, .slice a n c] 25)).alloc (Obj.cells #[.bool false, .slice none 0 0] 25) = W at *
 clear hgW
 simp only [World.size_alloc] at r0
 have p0_ne_r0 : ¬ w.heap.size = w.heap.size + 1 := by omega
 have r0_ne_p0 : ¬ w.heap.size + 1 = w.heap.size := by omega
 replace p0_0 := p0.cell (i := 0) rfl
 replace p0_1 := p0.cell (i := 1) rfl
 replace r0_0 := r0.cell (i := 0) rfl
 replace r0_1 := r0.cell (i := 1) rfl
 replace r0_f0 := r0.free 0
 replace r0_f1 := r0.free 1
 replace r0_lt := r0.lt
 have hEd : Ext W W.drew := (Below.refl _ _).drew
 replace p0 := p0.ext hEd; replace p0_0 := p0.cell (i := 0) rfl; replace p0_1 := p0.cell (i := 1) rfl; replace r0 := r0.ext hEd; replace r0_0 := r0.cell (i := 0) rfl; replace r0_1 := r0.cell (i := 1) rfl; replace r0_f0 := r0.free 0; replace r0_f1 := r0.free 1; replace r0_lt := r0.lt
 have hE0 := Ext.trans hEW hEd
 have h1 := h.ext (Nat.le_refl _) hE0
 have hrl : w.heap.size + 1 < W.drew.heap.size := r0_lt
 have na : ¬ w.heap.size = w.heap.size + 1 := by omega
 have na' : ¬ w.heap.size + 1 = w.heap.size := by omega
 have hEQ : Ext W.drew (W.alloc (Obj.cells #[] 126)).drew := (Below.refl _ _).alloc (Nat.le_refl _) _
 have hq := p0.ext hEQ
 have hq0 := hq.cell (i := 0) rfl
 have hq1 := hq.cell (i := 1) rfl
 have h2 := h1.ext (Nat.le_refl _) hEQ
 have hB : Blk (W.alloc (Obj.cells #[] 126)).drew W.heap.size 126 (words ([] ++ [])) := Blk.new W _ #[]
 go_region_held3 (fun w' => w'.cell? ⟨w.heap.size, 0, none⟩ = some (.bool b) ∧ w'.cell? ⟨w.heap.size, 1, none⟩ = some (.slice a n c)) (first | exact ⟨p0_0, p0_1⟩ | exact ⟨hq0, hq1⟩ | exact ⟨hw0, hw1⟩ | go_keep)
  (first
  | (refine step_append_src rfl (.tmp 5) (.tmp 7) 23 rfl W.heap.size 126 i0 _ 1 4 under_nat hi hz0 hz1 hz2 rfl (by decide) _ 0 _ rfl (owns_of_blk (l := []) (m := []) (c := 0) hB (Nat.le_refl _) rfl rfl (by omega)) a n c (l.map fun x : Nat => Value.int .u32 (x : Int)) rfl (NatS.src h2).1 (by rw [List.length_map, Nat.mul_one]; exact h2.len) (NatS.src h2).2 (by simp [Value.oneCell']) (by unfold maxLen; omega) (by omega) hEQ.size ?_; intro v' w2 hown' hgrow hat; rw [Nat.zero_add] at hown'; obtain ⟨a5, c5, rfl, h5⟩ := natS_of_owns' (l := l) hown' h.small; have hE2 : Ext w w2 := (Ext.trans hE0 hEQ).grown hgrow (Ext.trans hE0 hEQ).size (fun k e => by cases e; exact hEW.size); have hgE : Ext W w2 := ((Below.refl W.heap.size W).alloc (Nat.le_refl _) (Obj.cells #[] 126)).drew.grown hgrow hEQ.size (fun k e => by cases e; exact Nat.le_refl _); have hw0 := cellE hgE (show W.cell? ⟨w.heap.size, 0, none⟩ = some (.bool b) from p0_0); have hw1 := cellE hgE (show W.cell? ⟨w.heap.size, 1, none⟩ = some (.slice a n c) from p0_1); replace r0 := Blk.ext (show Blk W (w.heap.size + 1) _ _ from r0) hgE; replace r0_0 := r0.cell (i := 0) rfl; replace r0_1 := r0.cell (i := 1) rfl; replace r0_f0 := r0.free 0; replace r0_f1 := r0.free 1; replace r0_lt := r0.lt))
 have HF : Hid (RCopyI w b n l (.returned (.agg #[.bool b, .slice a5 n c5])) ((w2.setCell ⟨w.heap.size + 1, 0, none⟩ (.bool b)).setCell ⟨w.heap.size + 1, 1, none⟩ (.slice a5 n c5))) := Lib.hid ⟨a5, c5, rfl, (h5.mono (Nat.le_refl _) (Kept.trans (kept_set _ _ _ hrl) (kept_set _ _ _ hrl))).mono hEW.size (Kept.refl _ _), Below.setCell (Below.setCell hE2 (p := ⟨w.heap.size + 1, 0, none⟩) (by simp) _) (p := ⟨w.heap.size + 1, 1, none⟩) (by simp) _⟩
 have r02 : Blk (((w2).setCell ⟨w.heap.size + 1, 0, none⟩ (.bool b)).setCell ⟨w.heap.size + 1, 1, none⟩ (.slice a5 n c5)) _ _ #[.bool b, .slice a5 n c5] := ((r0).set 0 (.bool b)).set 1 (.slice a5 n c5)
 have hr00 := r02.cell (i := 0) rfl
 have hr01 := r02.cell (i := 1) rfl
 go_wp2_with fail
 exact bodyPost_ret (v := .agg #[.bool b, .slice a5 n c5]) (by simp [results, Tryz.results78, go_sem, hr00, hr01]) rfl HF.out
def RCopyL (w : World) (n : Nat) (xs : List It) (e : Ending) (w' : World) : Prop := ∃ a2 c2, e = .returned (.slice a2 n c2) ∧ Sl rInt w.heap.size w' a2 n c2 xs ∧ Ext w w'
set_option maxRecDepth 100000 in
set_option maxHeartbeats 8000000 in
theorem r3CopyAll_any (w : World) (a : Option Addr) (n c : Nat) (xs : List It) (h : Sl rInt 0 w a n c xs) (hx : Hid (∀ x ∈ xs, x.2.length ≤ 1099511627776)) (hn : n ≤ 1099511627776) :
  Calls Tryz.prog 79 #[.slice a n c] w (RCopyL w n xs) := by
 obtain ⟨cur, hcur, hmk⟩ := make_any under_ints info_int n n (Nat.le_refl _) (by omega) (by omega)
 have hmk : ∀ w, (Instr.makeSlice 30 (.int .i64 (n : Int)) (.int .i64 (n : Int))).run Tryz.prog w = .ok (.slice (some ⟨w.heap.size, 0, none⟩) n n) (w.alloc (.cells cur 25)) := hmk
 have HCur := Lib.hid hcur
 have HS := Lib.hid h
 have hcap := h.cap
 have hmost := h.most
 have hlen := Lib.hid h.len
 clear hcur h
 have hEA : Ext w (w.alloc (Obj.cells cur 25)) := (Below.refl _ _).alloc (Nat.le_refl _) _
 have HEA := Lib.hid hEA
 have HG0 : Hid (Grp rInt w.heap.size 25 (w.alloc (Obj.cells cur 25)) (.slice (some ⟨w.heap.size, 0, none⟩) 0 n) 0 [] []) := Lib.hid ⟨rfl, rfl, World.ownsRow_made w cur n (Nat.le_refl _) (by unfold maxLen; omega) HCur.out, fun k hk => absurd hk (by simp)⟩
 clear hEA
 go_enter Tryz.func79, Tryz.ntmps79
 go_wp2_with fail
 go_loopg [11] n (fun k vi w2 => ∃ (j : Nat), j ≤ n ∧ k = n - j ∧ vi = .int .i64 (j : Int) ∧ Hid (∃ css, Grp rInt w.heap.size 25 w2 (.slice (some ⟨w.heap.size, 0, none⟩) j n) j (xs.take j) css) ∧ Hid (Ext w w2))
 case atStart => exact ⟨0, Nat.zero_le _, by omega, rfl, Lib.hid ⟨[], HG0.out⟩, HEA⟩
 case round =>
  clear HG0 HEA
  obtain ⟨j, hj, hk2, rfl, HGj, HEj⟩ := hrel
  by_cases hjc : j < n
  ·obtain ⟨css, hGj⟩ := HGj.out
   have hgl := hGj.cell.1
   obtain ⟨b7, o7, s7, a7, n7, c7, l7, rfl, hb7, hz7, hc9, hc10, h7⟩ := (HS.out.ext (Nat.le_refl _) HEj.out).getIt hjc
   obtain ⟨hkl, hze⟩ := List.getElem?_eq_some_iff.1 hz7
   have HTK : Hid (xs.take (j + 1) = xs.take j ++ [(s7, l7)]) := Lib.hid (by rw [List.take_succ_eq_append_getElem hkl, hze])
   have hn7 : n7 ≤ 1099511627776 := by rw [← h7.len]; exact hx.out _ (List.mem_of_getElem? hz7)
   have H7 := Lib.hid h7
   have hjc' : (j : Int) < (n : Int) := by omega
   have hszr := HEj.out.size
   clear hz7 hze h7 hkl
   go_wp2_with fail
   have u := Blk.new wr 25 #[.bool s7, .slice a7 n7 c7]
   have hEW9 : Ext wr (wr.alloc (Obj.cells #[.bool s7, .slice a7 n7 c7] 25)) := ((Below.refl _ wr).alloc (by simp) _)
   generalize hgW9 : wr.alloc (Obj.cells #[.bool s7, .slice a7 n7 c7] 25) = W9 at *
   clear hgW9
   replace u_0 := u.cell (i := 0) rfl
   replace u_1 := u.cell (i := 1) rfl
   (with_reducible refine (r3Copy_any W9 s7 a7 n7 c7 l7 (H7.out.ext (Nat.le_refl _) hEW9) hn7).mono ?_)
   rintro e w5 ⟨a8, c8, rfl, h8, hE9⟩
   have hE5 := Ext.trans hEW9 hE9
   have hsz5 := hE5.size
   have hG5 := hGj.keep hE5.size (fun b _ h2 => hE5.block b h2)
   obtain ⟨hg1, hg2, hg3⟩ := hG5.cell
   have q0 := hg3 (j * 2) (show j * 2 < n * 2 by omega)
   have q1 := hg3 (j * 2 + 1) (show j * 2 + 1 < n * 2 by omega)
   obtain ⟨⟨u0, s0⟩, f0⟩ := q0
   obtain ⟨⟨u1, s1⟩, f1⟩ := q1
   have HP := Lib.hid (hG5.put hjc (x := (s7, l7)) (cs := [.bool s7, .slice a8 n7 c8]) (Bx := wr.heap.size) (rInt_mk (h8.mono hEW9.size (Kept.refl _ _))) hszr hgl)
   have HEP := Lib.hid (Ext.trans HEj.out hE5)
   have HE8 := Lib.hid (Below.setCell (Below.setCell HEP.out (p := ⟨w.heap.size, j * 2, none⟩) (Nat.le_refl _) (.bool s7)) (p := ⟨w.heap.size, j * 2 + 1, none⟩) (Nat.le_refl _) (.slice a8 n7 c8))
   clear hG5 hg3 h8 hE5 hE9 hEW9 u u_0 u_1 hc9 hc10 hGj
   go_wp2_with fail
   go_roundg (n - (j + 1))
   case measure => omega
   case rel => exact ⟨j + 1, by omega, rfl, by go_num, Lib.hid ⟨css ++ [[.bool s7, .slice a8 n7 c8]], by rw [HTK.out]; exact HP.out⟩, HE8⟩
  ·obtain rfl : j = n := by omega
   obtain ⟨css, hGj⟩ := HGj.out
   obtain ⟨ar, cr, hv, hsr⟩ := hGj.sl
   cases hv
   rw [List.take_of_length_le (by rw [hlen.out]; exact Nat.le_refl _)] at hsr
   have HSR := Lib.hid hsr
   clear hGj hsr
   go_wp2_with fail
   go_ret
   exact ⟨_, _, rfl, HSR.out, HEj.out⟩
end Go.Proofs.YtbhenelehhiakaaGreat
namespace Go.Proofs.YtbhenelehhiakaaGreat
open Go.RowKit
def rVecK (K : Nat) : Rd (Int × List Int) where
 size := 3
 ok B w cs x := ∃ b a n c a2 n2 c2, cs = [.bool b, .slice a n c, .slice a2 n2 c2] ∧ ∃ l, NatS B w a n c l ∧ ival b l = x.1 ∧ n ≤ K ∧ Sl (rIntK K) B w a2 n2 c2 x.2
 len h := by obtain ⟨b, a, n, c, a2, n2, c2, h, _⟩ := h; rw [h]; rfl
 mono h hB hk := by
  obtain ⟨b, a, n, c, a2, n2, c2, h, l, h1, h2, h3, h4⟩ := h
  exact ⟨b, a, n, c, a2, n2, c2, h, l, h1.mono hB hk, h2, h3, h4.mono hB hk⟩
def VecS (K : Nat) (w : World) (b : Bool) (a : Option Addr) (n c : Nat) (a2 : Option Addr) (n2 c2 : Nat) (d : Int) (zs : List Int) : Prop := ∃ l, NatS 0 w a n c l ∧ ival b l = d ∧ n ≤ K ∧ Sl (rIntK K) 0 w a2 n2 c2 zs
theorem VecS.ext {K : Nat} {w w' : World} {b : Bool} {a a2 : Option Addr} {n c n2 c2 : Nat} {d : Int} {zs : List Int} (h : VecS K w b a n c a2 n2 c2 d zs) (hE : Ext w w') : VecS K w' b a n c a2 n2 c2 d zs := by
 obtain ⟨l, h1, h2, h3, h4⟩ := h
 exact ⟨l, h1.ext (Nat.le_refl _) hE, h2, h3, h4.ext (Nat.le_refl _) hE⟩
theorem VecS.len {K : Nat} {w : World} {b : Bool} {a a2 : Option Addr} {n c n2 c2 : Nat} {d : Int} {zs : List Int} (h : VecS K w b a n c a2 n2 c2 d zs) : zs.length = n2 := by
 obtain ⟨l, h1, h2, h3, h4⟩ := h
 exact h4.len
theorem VecS.weak {K K' : Nat} {w : World} {b : Bool} {a a2 : Option Addr} {n c n2 c2 : Nat} {d : Int} {zs : List Int} (h : VecS K w b a n c a2 n2 c2 d zs) (hK : K ≤ K') : VecS K' w b a n c a2 n2 c2 d zs := by
 obtain ⟨l, h1, h2, h3, h4⟩ := h
 exact ⟨l, h1, h2, Nat.le_trans h3 hK, h4.weak (s := rIntK K') (Nat.le_refl _) rfl fun cs z ⟨b, a, n, c, l, e, g1, g2, g3⟩ => ⟨b, a, n, c, l, e, g1, g2, Nat.le_trans g3 hK⟩⟩
theorem Sl.getVec {K B : Nat} {w : World} {a : Option Addr} {n c : Nat} {xs : List (Int × List Int)} (h : Sl (rVecK K) B w a n c xs) {i : Nat} (hi : i < n) : ∃ b o s a1 n1 c1 a2 n2 c2 x, a = some ⟨b, o, none⟩ ∧ b < w.heap.size ∧ xs[i]? = some x ∧ w.cell? ⟨b, o + i * 3, none⟩ = some (.bool s) ∧ w.cell? ⟨b, o + i * 3 + 1, none⟩ = some (.slice a1 n1 c1) ∧ w.cell? ⟨b, o + i * 3 + 2, none⟩ = some (.slice a2 n2 c2) ∧ VecS K w s a1 n1 c1 a2 n2 c2 x.1 x.2 := by
 have hl : i < xs.length := by rw [h.len]; exact hi
 obtain ⟨b, o, cs, ha, ⟨s, a1, n1, c1, a2, n2, c2, rfl, l, h1, h2, h3, h4⟩, hc⟩ := h.at_ i hl
 exact ⟨b, o, s, a1, n1, c1, a2, n2, c2, _, ha, cel_lt (hc 0 (by simp)), List.getElem?_eq_getElem hl, (hc 0 (by simp)).cell, (hc 1 (by simp)).cell, (hc 2 (by simp)).cell, l, Sl.zero h1, h2, h3, Sl.zero h4⟩
theorem one_vec {K : Nat} {w : World} {g : Nat} {t : TypeId} {b : Bool} {a a2 : Option Addr} {n c n2 c2 : Nat} {x : Int × List Int} (h : Blk w g t #[.bool b, .slice a n c, .slice a2 n2 c2]) (h2 : VecS K w b a n c a2 n2 c2 x.1 x.2) : Sl (rVecK K) 0 w (some ⟨g, 0, none⟩) 1 1 [x] :=
 ⟨rfl, Nat.le_refl _, by omega, fun e => (by cases e), fun i hi => by
  obtain rfl : i = 0 := by simp at hi; omega
  refine ⟨g, 0, _, rfl, ⟨b, a, n, c, a2, n2, c2, rfl, h2⟩, fun j hj => ?_⟩
  match j, hj with
  | 0, _ => exact ⟨Nat.zero_le _, h.cell (i := 0) rfl, h.free 0⟩
  | 1, _ => exact ⟨Nat.zero_le _, h.cell (i := 1) rfl, h.free 1⟩
  | 2, _ => exact ⟨Nat.zero_le _, h.cell (i := 2) rfl, h.free 2⟩⟩
theorem two_vec {K : Nat} {w : World} {g : Nat} {t : TypeId} {b b' : Bool} {a a2 a' a2' : Option Addr} {n c n2 c2 n' c' n2' c2' : Nat} {x y : Int × List Int} (h : Blk w g t #[.bool b, .slice a n c, .slice a2 n2 c2, .bool b', .slice a' n' c', .slice a2' n2' c2']) (h2 : VecS K w b a n c a2 n2 c2 x.1 x.2) (h3 : VecS K w b' a' n' c' a2' n2' c2' y.1 y.2) : Sl (rVecK K) 0 w (some ⟨g, 0, none⟩) 2 2 [x, y] :=
 ⟨rfl, Nat.le_refl _, by omega, fun e => (by cases e), fun i hi => by
  match i, hi with
  | 0, _ =>
   refine ⟨g, 0, _, rfl, ⟨b, a, n, c, a2, n2, c2, rfl, h2⟩, fun j hj => ?_⟩
   match j, hj with
   | 0, _ => exact ⟨Nat.zero_le _, h.cell (i := 0) rfl, h.free 0⟩
   | 1, _ => exact ⟨Nat.zero_le _, h.cell (i := 1) rfl, h.free 1⟩
   | 2, _ => exact ⟨Nat.zero_le _, h.cell (i := 2) rfl, h.free 2⟩
  | 1, _ =>
   refine ⟨g, 0, _, rfl, ⟨b', a', n', c', a2', n2', c2', rfl, h3⟩, fun j hj => ?_⟩
   match j, hj with
   | 0, _ => exact ⟨Nat.zero_le _, h.cell (i := 3) rfl, h.free 3⟩
   | 1, _ => exact ⟨Nat.zero_le _, h.cell (i := 4) rfl, h.free 4⟩
   | 2, _ => exact ⟨Nat.zero_le _, h.cell (i := 5) rfl, h.free 5⟩⟩
def vecsE (vs : List (Int × List Int)) : Int := match vs with
 | [] => 0
 | v :: vs => if v.1 = 0 then 6 else vecsE vs
theorem vecsE_take (vs : List (Int × List Int)) : ∀ (i : Nat), (∀ j x, j < i → vs[j]? = some x → x.1 ≠ 0) → vecsE vs = vecsE (vs.drop i) := by
 induction vs with
 | nil => intro i _; simp
 | cons m ms ih =>
  intro i h
  cases i with
  | zero => rfl
  | succ i =>
   rw [List.drop_succ_cons, ← ih i (fun j x hj hx => h (j + 1) x (by omega) (by simpa using hx))]
   conv => lhs; unfold vecsE
   rw [if_neg (h 0 m (by omega) rfl)]
theorem vecsE_zero {vs : List (Int × List Int)} (h : vecsE vs = 0) : ∀ v ∈ vs, v.1 ≠ 0 := by
 induction vs with
 | nil => simp
 | cons v vs ih =>
  unfold vecsE at h
  by_cases hv : v.1 = 0
  ·rw [if_pos hv] at h; cases h
  ·rw [if_neg hv] at h
   intro x hx
   rcases List.mem_cons.1 hx with rfl | hx
   ·exact hv
   ·exact ih h x hx
set_option maxRecDepth 100000 in
set_option maxHeartbeats 2000000 in
theorem vecCheck_any (K : Nat) (hK : K ≤ 8796093022208) (w : World) (a : Option Addr) (n c : Nat) (vs : List (Int × List Int)) (h : Sl (rVecK K) 0 w a n c vs) (s : Int) (hs : Hid (vecsE vs = s)) :
  Calls Tryz.prog 64 #[.slice a n c] w fun e w' => e = .returned (.int .i64 s) ∧ Ext w w' := by
 have hmost := h.most
 have hcap := h.cap
 have HS := Lib.hid h
 have hl := Lib.hid h.len
 clear h
 go_enter Tryz.func64, Tryz.ntmps64
 go_wp2_with fail
 go_loopg [7] n (fun q vi wr => ∃ i : Nat, i ≤ n ∧ q = n - i ∧ vi = .int .i64 (i : Int) ∧ Hid (∀ j x, j < i → vs[j]? = some x → x.1 ≠ 0) ∧ Hid (Ext w wr))
 case atStart => exact ⟨0, Nat.zero_le _, by omega, rfl, Lib.hid (fun j _ hj => by omega), Lib.hid (Ext.refl _)⟩
 case round =>
  obtain ⟨i, hi, hq, rfl, HI, HE⟩ := hrel
  by_cases hin : i < n
  ·obtain ⟨b5, o5, s5, a5, n5, c5, a6, n6, c6, x, rfl, hb5, hx, hc5, hc6, hc7, h5⟩ := HS.out.getVec hin
   replace hc5 := (HE.out.cell (p := ⟨b5, o5 + i * 3, none⟩) hb5).trans hc5
   replace hc6 := (HE.out.cell (p := ⟨b5, o5 + i * 3 + 1, none⟩) hb5).trans hc6
   replace hc7 := (HE.out.cell (p := ⟨b5, o5 + i * 3 + 2, none⟩) hb5).trans hc7
   have H5 := Lib.hid (h5.ext HE.out)
   have HX := Lib.hid hx
   clear hx h5
   go_wp2_with fail
   have y := Blk.new wr 32 #[.bool s5, .slice a5 n5 c5, .slice a6 n6 c6]
   have hEW2 : Ext wr (wr.alloc (Obj.cells #[.bool s5, .slice a5 n5 c5, .slice a6 n6 c6] 32)) := ((Below.refl _ wr).alloc (by simp) _)
   generalize hgW2 : wr.alloc (Obj.cells #[.bool s5, .slice a5 n5 c5, .slice a6 n6 c6] 32) = W2 at *
   clear hgW2
   replace y_0 := y.cell (i := 0) rfl
   replace y_1 := y.cell (i := 1) rfl
   replace y_2 := y.cell (i := 2) rfl
   have HEY := Lib.hid (Ext.trans HE.out hEW2)
   obtain ⟨l5, g1, g2, g3, -⟩ := H5.out.ext hEW2
   obtain ⟨t, ht⟩ : ∃ t, x.1 = t := ⟨_, rfl⟩
   have HT := Lib.hid ht
   have HG : Hid (ival s5 l5 = t) := Lib.hid (by rw [g2, ht])
   clear hc5 hc6 hc7 g2 ht
   refine (zintSign_z s5 0 W2 a5 n5 c5 l5 t g1 (by omega) HG).mono ?_
   rintro e w3 ⟨rfl, hE3⟩
   have HE3 := Lib.hid (Ext.trans HEY.out hE3)
   clear hE3 hEW2 y y_0 y_1 y_2 g1
   by_cases ht0 : t = 0
   ·subst ht0
    have HF : Hid (s = 6) := Lib.hid (by
     rw [← hs.out, vecsE_take vs i HI.out]
     obtain ⟨h8, h9⟩ := List.getElem?_eq_some_iff.1 HX.out
     rw [List.drop_eq_getElem_cons h8, h9]
     unfold vecsE
     rw [if_pos HT.out])
    rw [Int.sign_zero]
    go_wp2_with fail
    go_ret
    exact ⟨by rw [HF.out]; rfl, HE3.out⟩
   ·have hd0 : (t.sign == 0) = false := by simpa using ht0
    have HN := Lib.hid ht0
    clear ht0
    generalize t.sign = sg at *
    go_wp2_with fail
    go_roundg (n - (i + 1))
    case measure => omega
    case rel => exact ⟨i + 1, by omega, rfl, by go_num, Lib.hid (fun j z hj hz => by
     by_cases hji : j < i
     ·exact HI.out j z hji hz
     ·obtain rfl : j = i := by omega
      rw [HX.out] at hz
      cases hz
      rw [HT.out]; exact HN.out), HE3⟩
  ·obtain rfl : i = n := by omega
   have HF : Hid (s = 0) := Lib.hid (by
    rw [← hs.out, vecsE_take vs i HI.out, List.drop_of_length_le (by rw [hl.out]; exact Nat.le_refl _)]
    rfl)
   go_wp2_with fail
   go_ret
   exact ⟨by rw [HF.out]; rfl, HE.out⟩
def nrmN (qs : List Rat) : List Int := qs.map (comNum (comDen qs))
def frV (d : Int) (zs : List Int) : List Rat := zs.map fun z => ratv z d
def RVAns (w : World) (s : Int) (qs : List Rat) (e : Ending) (w' : World) : Prop := ∃ b a n c a2 n2 c2, e = .returned (.tuple #[.agg #[.bool b, .slice a n c, .slice a2 n2 c2], .int .i64 s]) ∧ Ext w w' ∧ (s ≠ 0 → b = false ∧ a = none ∧ n = 0 ∧ c = 0 ∧ a2 = none ∧ n2 = 0 ∧ c2 = 0) ∧ (s = 0 → b = false ∧ NatS w.heap.size w' a n c (limbs (comDen qs)) ∧ Sl rIntN w.heap.size w' a2 n2 c2 (nrmN qs))
theorem made_vec (D : Int) (hD : D ≠ 0) (zs : List Int) : madeDen D [zs] = ((comDen (frV D zs) : Nat) : Int) ∧ madeRows D [zs] = [nrmN (frV D zs)] := by
 obtain ⟨h1, h2⟩ := made_normal D hD [zs] (by simp [colsOf])
 have e : ([zs].map fun zs => zs.map fun z => ratv z D) = [frV D zs] := rfl
 rw [e] at h1 h2
 have e2 : [frV D zs].flatten = frV D zs := by simp
 rw [e2] at h1 h2
 exact ⟨h1.symm, h2.symm⟩
def RVecN (w : World) (qs : List Rat) (e : Ending) (w' : World) : Prop := ∃ a n c a2 n2 c2, e = .returned (.agg #[.bool false, .slice a n c, .slice a2 n2 c2]) ∧ NatS w.heap.size w' a n c (limbs (comDen qs)) ∧ Sl rIntN w.heap.size w' a2 n2 c2 (nrmN qs) ∧ Ext w w'
theorem vec_nrm (K : Nat) (hK : K ≤ 8796093022208) (w : World) (b : Bool) (a : Option Addr) (n c : Nat) (l : Nt) (h : NatS 0 w a n c l) (hn : n ≤ 8796093022208) (d : Int) (hd : Hid (ival b l = d)) (hd0 : d ≠ 0) (a2 : Option Addr) (n2 c2 : Nat) (zs : List Int) (h2 : Sl (rIntK K) 0 w a2 n2 c2 zs) (hn2 : n2 ≤ 1099511627776) (qs : List Rat) (hqs : Hid (frV d zs = qs)) :
  Calls Tryz.prog 59 #[.agg #[.bool b, .slice a n c], .slice a2 n2 c2] w (RVecN w qs) := by
 obtain ⟨e1, e2⟩ := made_vec d hd0 zs
 rw [hqs.out] at e1 e2
 refine (vec_any K hK w b a n c l h hn d hd hd0 a2 n2 c2 zs h2 hn2 _ (Lib.hid e1) _ (Lib.hid e2)).mono ?_
 rintro e w' ⟨a, n, c, a2, n2, c2, rfl, h1, h2, h3⟩
 exact ⟨a, n, c, a2, n2, c2, by simp, by simpa using h1, h2, h3⟩
def normVE (x : Int × List Int) : Int := if x.1 = 0 then 6 else 0
set_option maxRecDepth 100000 in
set_option maxHeartbeats 4000000 in
theorem vecNorm_ans (K : Nat) (hK : K ≤ 8796093022208) (w : World) (b : Bool) (a a2 : Option Addr) (n c n2 c2 : Nat) (x : Int × List Int) (h : VecS K w b a n c a2 n2 c2 x.1 x.2) (hn2 : n2 ≤ 1099511627776) (s : Int) (hs : Hid (normVE x = s)) (qs : List Rat) (hqs : Hid (frV x.1 x.2 = qs)) :
  Calls Tryz.prog 51 #[.agg #[.bool b, .slice a n c, .slice a2 n2 c2]] w (RVAns w s qs) := by
 have HSE : Hid (vecsE [x] = s) := Lib.hid (by rw [← hs.out]; rfl)
 go_enter Tryz.func51, Tryz.ntmps51
 go_wp2_with fail
 have p0 := Blk.new w 32 #[.bool b, .slice a n c, .slice a2 n2 c2]
 have r := Blk.new (w.alloc (Obj.cells #[.bool b, .slice a n c, .slice a2 n2 c2] 32)) 32 #[.bool false, .slice none 0 0, .slice none 0 0]
 replace p0 := p0.ext ((Below.refl _ _).alloc (Nat.le_refl _) (Obj.cells #[.bool false, .slice none 0 0, .slice none 0 0] 32))
 have g := Blk.new ((w.alloc (Obj.cells #[.bool b, .slice a n c, .slice a2 n2 c2] 32)).alloc (Obj.cells #[.bool false, .slice none 0 0, .slice none 0 0] 32)) 32 #[.bool b, .slice a n c, .slice a2 n2 c2]
 replace p0 := p0.ext ((Below.refl _ _).alloc (Nat.le_refl _) (Obj.cells #[.bool b, .slice a n c, .slice a2 n2 c2] 32))
 replace r := r.ext ((Below.refl _ _).alloc (Nat.le_refl _) (Obj.cells #[.bool b, .slice a n c, .slice a2 n2 c2] 32))
 have hEW : Ext w (((w.alloc (Obj.cells #[.bool b, .slice a n c, .slice a2 n2 c2] 32)).alloc (Obj.cells #[.bool false, .slice none 0 0, .slice none 0 0] 32)).alloc (Obj.cells #[.bool b, .slice a n c, .slice a2 n2 c2] 32)) := ((((Below.refl _ w).alloc (by simp) _).alloc (by simp) _).alloc (by simp; omega) _)
 generalize hgW : ((w.alloc (Obj.cells #[.bool b, .slice a n c, .slice a2 n2 c2] 32)).alloc (Obj.cells #[.bool false, .slice none 0 0, .slice none 0 0] 32)).alloc (Obj.cells #[.bool b, .slice a n c, .slice a2 n2 c2] 32) = W at *
 clear hgW
 simp only [World.size_alloc] at r g
 have p0_ne_r : ¬ w.heap.size = w.heap.size + 1 := by omega
 have p0_ne_g : ¬ w.heap.size = w.heap.size + 1 + 1 := by omega
 have r_ne_p0 : ¬ w.heap.size + 1 = w.heap.size := by omega
 have r_ne_g : ¬ w.heap.size + 1 = w.heap.size + 1 + 1 := by omega
 have g_ne_p0 : ¬ w.heap.size + 1 + 1 = w.heap.size := by omega
 have g_ne_r : ¬ w.heap.size + 1 + 1 = w.heap.size + 1 := by omega
 replace p0_0 := p0.cell (i := 0) rfl
 replace p0_1 := p0.cell (i := 1) rfl
 replace p0_2 := p0.cell (i := 2) rfl
 replace r_0 := r.cell (i := 0) rfl
 replace r_1 := r.cell (i := 1) rfl
 replace r_2 := r.cell (i := 2) rfl
 replace r_f0 := r.free 0
 replace r_f1 := r.free 1
 replace r_f2 := r.free 2
 replace r_lt := r.lt
 replace g_0 := g.cell (i := 0) rfl
 replace g_1 := g.cell (i := 1) rfl
 replace g_2 := g.cell (i := 2) rfl
 have hW : w.heap.size + 1 < W.heap.size := r_lt
 have hG := one_vec (x := x) g (h.ext hEW)
 (with_reducible refine (vecCheck_any K hK W _ 1 1 [x] hG s HSE).mono ?_)
 rintro e w1 ⟨rfl, hE1⟩
 replace p0 := p0.ext hE1; replace p0_0 := p0.cell (i := 0) rfl; replace p0_1 := p0.cell (i := 1) rfl; replace p0_2 := p0.cell (i := 2) rfl; replace r := r.ext hE1; replace r_0 := r.cell (i := 0) rfl; replace r_1 := r.cell (i := 1) rfl; replace r_2 := r.cell (i := 2) rfl; replace r_f0 := r.free 0; replace r_f1 := r.free 1; replace r_f2 := r.free 2; replace r_lt := r.lt
 have hE0 := Ext.trans hEW hE1
 have hsz1 := hE1.size
 have h1 := h.ext hE0
 clear hG g g_0 g_1 g_2 h hEW hE1 HSE
 by_cases h0 : x.1 = 0
 ·have HS : Hid (s = 6) := Lib.hid (by rw [← hs.out]; unfold normVE; rw [if_pos h0])
  clear h0 h1
  have hsb : (s != 0) = true := by rw [HS.out]; decide
  have HF : Hid (RVAns w s qs (.returned (.tuple #[.agg #[.bool false, .slice none 0 0, .slice none 0 0], .int .i64 s])) (((w1.setCell ⟨w.heap.size + 1, 0, none⟩ (.bool false)).setCell ⟨w.heap.size + 1, 1, none⟩ (.slice none 0 0)).setCell ⟨w.heap.size + 1, 2, none⟩ (.slice none 0 0))) := Lib.hid ⟨false, none, 0, 0, none, 0, 0, rfl, ext_set3 hE0 _ _ _ (by omega), fun _ => ⟨rfl, rfl, rfl, rfl, rfl, rfl, rfl⟩, fun h => absurd h (by rw [HS.out]; decide)⟩
  clear hE0
  have r2 : Blk ((((w1).setCell ⟨w.heap.size + 1, 0, none⟩ (.bool false)).setCell ⟨w.heap.size + 1, 1, none⟩ (.slice none 0 0)).setCell ⟨w.heap.size + 1, 2, none⟩ (.slice none 0 0)) _ _ #[.bool false, .slice none 0 0, .slice none 0 0] := (((r).set 0 (.bool false)).set 1 (.slice none 0 0)).set 2 (.slice none 0 0)
  have hr0 := r2.cell (i := 0) rfl
  have hr1 := r2.cell (i := 1) rfl
  have hr2 := r2.cell (i := 2) rfl
  go_wp2_with fail
  exact bodyPost_ret (v := .tuple #[.agg #[.bool false, .slice none 0 0, .slice none 0 0], .int .i64 s]) (by simp [results, Tryz.results51, go_sem, hr0, hr1, hr2]) rfl HF.out
 ·have hs0 : s = 0 := by rw [← hs.out]; unfold normVE; rw [if_neg h0]
  subst hs0
  obtain ⟨l, g1, g2, g3, g4⟩ := h1
  have HG2 := Lib.hid g2
  clear g2
  go_wp2_with fail
  (with_reducible refine (vec_nrm K hK w1 b a n c l g1 (by omega) x.1 HG2 h0 a2 n2 c2 x.2 g4 hn2 qs hqs).mono ?_)
  rintro e w2 ⟨a7, n7, c7, a8, n8, c8, rfl, h7, h8, hE2⟩
  replace r := r.ext hE2; replace r_0 := r.cell (i := 0) rfl; replace r_1 := r.cell (i := 1) rfl; replace r_2 := r.cell (i := 2) rfl; replace r_f0 := r.free 0; replace r_f1 := r.free 1; replace r_f2 := r.free 2; replace r_lt := r.lt
  have HF : Hid (RVAns w 0 qs (.returned (.tuple #[.agg #[.bool false, .slice a7 n7 c7, .slice a8 n8 c8], .int .i64 0])) (((w2.setCell ⟨w.heap.size + 1, 0, none⟩ (.bool false)).setCell ⟨w.heap.size + 1, 1, none⟩ (.slice a7 n7 c7)).setCell ⟨w.heap.size + 1, 2, none⟩ (.slice a8 n8 c8))) := Lib.hid ⟨false, a7, n7, c7, a8, n8, c8, rfl, ext_set3 (Ext.trans hE0 hE2) _ _ _ (by omega), fun h => absurd rfl h, fun _ => ⟨rfl, (h7.mono (Nat.le_refl _) (kept_set3 _ _ _ _ (by omega))).mono (by omega) (Kept.refl _ _), (h8.mono (Nat.le_refl _) (kept_set3 _ _ _ _ (by omega))).mono (by omega) (Kept.refl _ _)⟩⟩
  clear h0 h7 h8 hE0 hE2 g1 g4
  have r2 : Blk ((((w2).setCell ⟨w.heap.size + 1, 0, none⟩ (.bool false)).setCell ⟨w.heap.size + 1, 1, none⟩ (.slice a7 n7 c7)).setCell ⟨w.heap.size + 1, 2, none⟩ (.slice a8 n8 c8)) _ _ #[.bool false, .slice a7 n7 c7, .slice a8 n8 c8] := (((r).set 0 (.bool false)).set 1 (.slice a7 n7 c7)).set 2 (.slice a8 n8 c8)
  have hr0 := r2.cell (i := 0) rfl
  have hr1 := r2.cell (i := 1) rfl
  have hr2 := r2.cell (i := 2) rfl
  go_wp2_with fail
  exact bodyPost_ret (v := .tuple #[.agg #[.bool false, .slice a7 n7 c7, .slice a8 n8 c8], .int .i64 0]) (by simp [results, Tryz.results51, go_sem, hr0, hr1, hr2]) rfl HF.out
end Go.Proofs.YtbhenelehhiakaaGreat
namespace Go.Proofs.YtbhenelehhiakaaGreat
open Go.RowKit Go.Shelf
attribute [local go_sem] Oper.semAt_some
end Go.Proofs.YtbhenelehhiakaaGreat
