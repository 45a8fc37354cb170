/-
  qmat: vec, VecFrom; what is made of numerators over a common denominator stays so.
-/
import Derived.Test.YtbhenelehhiakaaFrom30
import Derived.Test.YtbhenelehhiakaaFrom32
import Derived.Test.YtbhenelehhiakaaFrom33
import Derived.Test.YtbhenelehhiakaaFrom28
set_option linter.unusedVariables false
set_option linter.unusedSimpArgs false
namespace Go.Proofs.Ytbhenelehhiakaa
open Go.RowKit

theorem ratv_comNum (D : Nat) (hD : 0 < D) (q : Rat) (h : q.den ∣ D) : ratv (comNum D q) D = q := by
  have h0 : ((D : Int) : Rat) ≠ 0 := fun e => by have := Rat.intCast_inj.1 (show ((D : Int) : Rat) = ((0 : Int) : Rat) from e); omega
  unfold ratv
  rw [Rat.divInt_eq_div, ← comNum_eq D q h, Rat.div_def, Rat.mul_assoc, Rat.mul_inv_cancel _ h0, Rat.mul_one]

/-- numerators over the least common denominator are made as they are -/
theorem com_normal (qss : List (List Rat)) (D : Nat) (hD : comDen qss.flatten = D) (hev : ∀ qs ∈ qss, qs.length = colsOf qss) :
    madeDen D (qss.map fun qs => qs.map (comNum D)) = D ∧ madeRows D (qss.map fun qs => qs.map (comNum D)) = qss.map fun qs => qs.map (comNum D) := by
  have hp : 0 < D := by rw [← hD]; exact comDen_pos _
  have hB : ((qss.map fun qs => qs.map (comNum D)).map fun zs => zs.map fun z => ratv z D) = qss := by
    rw [List.map_map]
    conv => rhs; rw [← List.map_id qss]
    refine List.map_congr_left fun qs hq => ?_
    simp only [Function.comp, List.map_map, id]
    conv => rhs; rw [← List.map_id qs]
    refine List.map_congr_left fun q h => ?_
    exact ratv_comNum D hp q (by rw [← hD]; exact den_dvd_comDen _ _ (List.mem_flatten.2 ⟨qs, hq, h⟩))
  have hev' : ∀ zs ∈ qss.map (fun qs => qs.map (comNum D)), zs.length = colsOf (qss.map fun qs => qs.map (comNum D)) := by
    intro zs hz
    obtain ⟨qs, hq, rfl⟩ := List.mem_map.1 hz
    rw [List.length_map, hev qs hq]
    cases qss with
    | nil => rfl
    | cons x l => simp [colsOf]
  obtain ⟨h1, h2⟩ := made_normal D (by omega) (qss.map fun qs => qs.map (comNum D)) hev'
  rw [hB, hD] at h1 h2
  exact ⟨h1.symm, h2.symm⟩

/-- a vector in new memory -/
def RVec (w : World) (de : Int) (zs : List Int) (e : Ending) (w' : World) : Prop := ∃ a n c a2 n2 c2, e = .returned (.agg #[.bool (decide (de < 0)), .slice a n c, .slice a2 n2 c2]) ∧ NatS w.heap.size w' a n c (limbs de.natAbs) ∧ Sl rIntN w.heap.size w' a2 n2 c2 zs ∧ Ext w w'
def RVecOk (w : World) (de : Int) (zs : List Int) (e : Ending) (w' : World) : Prop := ∃ a n c a2 n2 c2, e = .returned (.tuple #[.agg #[.bool (decide (de < 0)), .slice a n c, .slice a2 n2 c2], .int .i64 0]) ∧ NatS w.heap.size w' a n c (limbs de.natAbs) ∧ Sl rIntN w.heap.size w' a2 n2 c2 zs ∧ Ext w w'

theorem one_row {K : Nat} {w : World} {g : Nat} {t : TypeId} {a2 : Option Addr} {n2 c2 : Nat} {zs : List Int} (h : Blk w g t #[.slice a2 n2 c2]) (h2 : Sl (rIntK K) 0 w a2 n2 c2 zs) : Sl (rIntK K).slice 0 w (some ⟨g, 0, none⟩) 1 1 [zs] :=
  ⟨rfl, Nat.le_refl _, by omega, fun e => (by cases e), fun i hi => by
    obtain rfl : i = 0 := by simp at hi; omega
    refine ⟨g, 0, _, rfl, ⟨a2, n2, c2, rfl, h2⟩, fun j hj => ?_⟩
    obtain rfl : j = 0 := by simp at hj; omega
    exact ⟨Nat.zero_le _, h.cell (i := 0) rfl, h.free 0⟩⟩

set_option maxRecDepth 100000 in
set_option maxHeartbeats 8000000 in
theorem vec_any (K : Nat) (hK : K ≤ 8796093022208) (w : World) (b : Bool) (a : Option Addr) (n c : Nat) (l : Nt) (h : NatS 0 w a n c l) (hn : n ≤ 8796093022208) (d : Int) (hd : Hid (ival b l = d)) (hd0 : d ≠ 0) (a2 : Option Addr) (n2 c2 : Nat) (zs : List Int) (h2 : Sl (rIntK K) 0 w a2 n2 c2 zs) (hn2 : n2 ≤ 1099511627776) (de : Int) (hde : Hid (madeDen d [zs] = de)) (row : List Int) (hrow : Hid (madeRows d [zs] = [row])) :
    Calls Try.prog 71 #[.agg #[.bool b, .slice a n c], .slice a2 n2 c2] w (RVec w de row) := by
  go_enter Try.func71, Try.ntmps71
  go_wp2_with fail
  have p0 := Blk.new w 27 #[.bool b, .slice a n c]
  have r := Blk.new (w.alloc (Obj.cells #[.bool b, .slice a n c] 27)) 69 #[.bool false, .slice none 0 0, .slice none 0 0]
  replace p0 := p0.ext ((Below.refl _ _).alloc (Nat.le_refl _) (Obj.cells #[.bool false, .slice none 0 0, .slice none 0 0] 69))
  have g := Blk.new ((w.alloc (Obj.cells #[.bool b, .slice a n c] 27)).alloc (Obj.cells #[.bool false, .slice none 0 0, .slice none 0 0] 69)) 67 #[.slice a2 n2 c2]
  replace p0 := p0.ext ((Below.refl _ _).alloc (Nat.le_refl _) (Obj.cells #[.slice a2 n2 c2] 67))
  replace r := r.ext ((Below.refl _ _).alloc (Nat.le_refl _) (Obj.cells #[.slice a2 n2 c2] 67))
  have hEW : Ext w (((w.alloc (Obj.cells #[.bool b, .slice a n c] 27)).alloc (Obj.cells #[.bool false, .slice none 0 0, .slice none 0 0] 69)).alloc (Obj.cells #[.slice a2 n2 c2] 67)) := ((((Below.refl _ w).alloc (by simp) _).alloc (by simp) _).alloc (by simp; omega) _)
  generalize hgW : ((w.alloc (Obj.cells #[.bool b, .slice a n c] 27)).alloc (Obj.cells #[.bool false, .slice none 0 0, .slice none 0 0] 69)).alloc (Obj.cells #[.slice a2 n2 c2] 67) = W at *
  clear hgW
  simp only [World.size_alloc] at r g
  have p0_ne_r : ¬ w.heap.size = w.heap.size + 1 := by omega
  have p0_ne_g : ¬ w.heap.size = w.heap.size + 1 + 1 := by omega
  have r_ne_p0 : ¬ w.heap.size + 1 = w.heap.size := by omega
  have r_ne_g : ¬ w.heap.size + 1 = w.heap.size + 1 + 1 := by omega
  have g_ne_p0 : ¬ w.heap.size + 1 + 1 = w.heap.size := by omega
  have g_ne_r : ¬ w.heap.size + 1 + 1 = w.heap.size + 1 := by omega
  replace p0_0 := p0.cell (i := 0) rfl
  replace p0_1 := p0.cell (i := 1) rfl
  replace r_0 := r.cell (i := 0) rfl
  replace r_1 := r.cell (i := 1) rfl
  replace r_2 := r.cell (i := 2) rfl
  replace r_f0 := r.free 0
  replace r_f1 := r.free 1
  replace r_f2 := r.free 2
  replace r_lt := r.lt
  replace g_0 := g.cell (i := 0) rfl
  have hrB := r_lt
  have hlen := h2.len
  obtain ⟨xss, hG, hxz⟩ := grid_of (intB_of_K hK (one_row g (h2.ext (Nat.le_refl _) hEW))) (by omega) (fun x hx => by simp at hx; subst hx; omega)
  have HXZ := Lib.hid hxz
  clear hxz
  refine (made_any W b a (some ⟨w.heap.size + 1 + 1, 0, none⟩) n c 1 1 l xss (h.ext (Nat.le_refl _) hEW) hG hn d hd hd0).mono ?_
  rintro e w5 ⟨a5, n5, c5, a6, n6, c6, rfl, h5, h6, hE5⟩
  rw [HXZ.out, hde.out] at h5
  rw [HXZ.out, hde.out]
  rw [HXZ.out, hrow.out] at h6
  obtain rfl : 1 = n6 := h6.len
  obtain ⟨b6, o6, cs, ha6, ⟨a7, n7, c7, rfl, hr7⟩, hc6⟩ := h6.at_ 0 (by simp)
  subst ha6
  have hc6 : w5.cell? ⟨b6, o6, none⟩ = some (.slice a7 n7 c7) := by simpa using (hc6 0 (by simp)).cell
  have H7 : Hid (Sl rIntN W.heap.size w5 a7 n7 c7 row) := Lib.hid hr7
  replace r := r.ext hE5; replace r_0 := r.cell (i := 0) rfl; replace r_1 := r.cell (i := 1) rfl; replace r_2 := r.cell (i := 2) rfl; replace r_f0 := r.free 0; replace r_f1 := r.free 1; replace r_f2 := r.free 2; replace r_lt := r.lt
  have hE0 := Ext.trans hEW hE5
  have hWs := hEW.size
  clear h6 hr7 hG hEW hE5 p0 p0_0 p0_1 g g_0
  obtain ⟨sg, hsg⟩ : ∃ s, decide (de < 0) = s := ⟨_, rfl⟩
  rw [hsg]
  have HSG := Lib.hid hsg
  clear hsg
  go_upto_region 2 with (fail)
  have k := Blk.new w5 30 #[.bool sg, .slice a5 n5 c5, .slice (some ⟨b6, o6, none⟩) 1 c6]
  have hEW6 : Ext w5 (w5.alloc (Obj.cells #[.bool sg, .slice a5 n5 c5, .slice (some ⟨b6, o6, none⟩) 1 c6] 30)) := ((Below.refl _ w5).alloc (by simp) _)
  generalize hgW6 : w5.alloc (Obj.cells #[.bool sg, .slice a5 n5 c5, .slice (some ⟨b6, o6, none⟩) 1 c6] 30) = W6 at *
  clear hgW6
  replace k_0 := k.cell (i := 0) rfl
  replace k_1 := k.cell (i := 1) rfl
  replace k_2 := k.cell (i := 2) rfl
  replace r := r.ext hEW6; replace r_0 := r.cell (i := 0) rfl; replace r_1 := r.cell (i := 1) rfl; replace r_2 := r.cell (i := 2) rfl; replace r_f0 := r.free 0; replace r_f1 := r.free 1; replace r_f2 := r.free 2; replace r_lt := r.lt
  have hd6 : Ext W6 W6.drew := (Below.refl _ _).drew
  replace r := r.ext hd6; replace r_0 := r.cell (i := 0) rfl; replace r_1 := r.cell (i := 1) rfl; replace r_2 := r.cell (i := 2) rfl; replace r_f0 := r.free 0; replace r_f1 := r.free 1; replace r_f2 := r.free 2; replace r_lt := r.lt; replace k := k.ext hd6; replace k_0 := k.cell (i := 0) rfl; replace k_1 := k.cell (i := 1) rfl; replace k_2 := k.cell (i := 2) rfl
  have hE6 := Ext.trans hEW6 hd6
  have hb6 : b6 < w5.heap.size := World.block_lt_of_cell? _ _ hc6
  have hc6 := (hE6.cell (p := ⟨b6, o6, none⟩) hb6).trans hc6
  have hsz6 := hE6.size
  have hk6 : w5.heap.size < W6.drew.heap.size := k.lt
  have hcl : (⟨b6, o6, none⟩ : Addr).block < W6.drew.heap.size := Nat.lt_of_lt_of_le hb6 hsz6
  have hEQ : Ext W6.drew (W6.alloc (Obj.cells #[.bool false, .slice none 0 0, .slice none 0 0] 69)).drew := (Below.refl _ _).alloc (Nat.le_refl _) _
  have hq6 := (hEQ.cell (p := ⟨b6, o6, none⟩) hcl).trans hc6
  have hkq := k.ext hEQ
  have hkq0 := hkq.cell (i := 0) rfl
  have hkq1 := hkq.cell (i := 1) rfl
  have hkq2 := hkq.cell (i := 2) rfl
  have hEQ2 : Ext W6.drew (W6.alloc (Obj.cells #[.bool sg, .slice a5 n5 c5, .slice a7 n7 c7] 69)).drew := (Below.refl _ _).alloc (Nat.le_refl _) _
  have hs6 := (hEQ2.cell (p := ⟨b6, o6, none⟩) hcl).trans hc6
  have hks := k.ext hEQ2
  have hks0 := hks.cell (i := 0) rfl
  have hks1 := hks.cell (i := 1) rfl
  have hks2 := hks.cell (i := 2) rfl
  go_region_held3 (fun w' => w'.cell? ⟨b6, o6, none⟩ = some (.slice a7 n7 c7) ∧ w'.cell? ⟨w5.heap.size, 0, none⟩ = some (.bool sg) ∧ w'.cell? ⟨w5.heap.size, 1, none⟩ = some (.slice a5 n5 c5) ∧ w'.cell? ⟨w5.heap.size, 2, none⟩ = some (.slice (some ⟨b6, o6, none⟩) 1 c6)) (first | exact ⟨hc6, k_0, k_1, k_2⟩ | exact ⟨hq6, hkq0, hkq1, hkq2⟩ | exact ⟨hs6, hks0, hks1, hks2⟩ | go_keep) (fail)
  have q : Blk (W6.alloc (Obj.cells #[.bool sg, .slice a5 n5 c5, .slice a7 n7 c7] 69)).drew W6.heap.size 69 #[.bool sg, .slice a5 n5 c5, .slice a7 n7 c7] := Blk.new W6 69 #[.bool sg, .slice a5 n5 c5, .slice a7 n7 c7]
  have r7 := r.ext hEQ2
  have hE8 := Ext.trans hE6 hEQ2
  have hrW6 : w.heap.size + 1 < W6.heap.size := r_lt
  have hsz7 := hE8.size
  clear hEQ hEQ2 hq6 hkq hkq0 hkq1 hkq2 hs6 hks hks0 hks1 hks2 hc6 hcl r r_0 r_1 r_2 r_f0 r_f1 r_f2 r_lt k k_0 k_1 k_2 hE6 hd6 hEW6
  generalize (W6.alloc (Obj.cells #[.bool sg, .slice a5 n5 c5, .slice a7 n7 c7] 69)).drew = W7 at *
  have r := r7
  skip
  skip
  replace r_0 := r.cell (i := 0) rfl
  replace r_1 := r.cell (i := 1) rfl
  replace r_2 := r.cell (i := 2) rfl
  replace r_f0 := r.free 0
  replace r_f1 := r.free 1
  replace r_f2 := r.free 2
  replace r_lt := r.lt
  replace q_0 := q.cell (i := 0) rfl
  replace q_1 := q.cell (i := 1) rfl
  replace q_2 := q.cell (i := 2) rfl
  replace q_f0 := q.free 0
  replace q_f1 := q.free 1
  replace q_f2 := q.free 2
  replace q_lt := q.lt
  have hE9 := Ext.trans hE0 hE8
  have h5f := h5.ext (Nat.le_refl _) hE8
  have H7f := H7.out.ext (Nat.le_refl _) hE8
  by_cases h70 : n7 = 0
  · subst h70
    have hrowN : row = [] := List.length_eq_zero_iff.1 H7f.len
    have hrW7 : w.heap.size + 1 < W7.heap.size := r_lt
    have HSR : w.heap.size ≤ W6.heap.size := by omega
    have h5g : NatS W.heap.size (W7.setCell ⟨W6.heap.size, 2, none⟩ (.slice none 0 0)) a5 n5 c5 (limbs de.natAbs) := NatS.set h5f q_2 (fun x => by simp) _
    clear h5f H7f
    go_upto_region 5 with (fail)
    replace q := q.set 2 (.slice none 0 0)
    replace r := r.set_ne 2 (.slice none 0 0) (show (w.heap.size + 1) ≠ W6.heap.size by omega)
    have hKW8 : ∀ bB_ : Nat, W6.heap.size < bB_ → Kept bB_ W7 ((W7).setCell ⟨W6.heap.size, 2, none⟩ (.slice none 0 0)) := fun bB_ h0 => (kept_set _ _ _ h0)
    have hzW8 : W7.heap.size ≤ ((W7).setCell ⟨W6.heap.size, 2, none⟩ (.slice none 0 0)).heap.size := by simp only [World.setCell, Array.size_modify]; exact Nat.le_refl _
    have hSW8 : ∀ (nB_ : Nat) (uB_ : World), nB_ ≤ W6.heap.size → Below nB_ uB_ W7 → Below nB_ uB_ ((W7).setCell ⟨W6.heap.size, 2, none⟩ (.slice none 0 0)) := fun nB_ uB_ h0 hb => (Below.setCell hb (p := ⟨W6.heap.size, 2, none⟩) h0 (.slice none 0 0))
    replace q : Blk ((W7).setCell ⟨W6.heap.size, 2, none⟩ (.slice none 0 0)) (W6.heap.size) 69 #[.bool sg, .slice a5 n5 c5, .slice none 0 0] := q
    generalize hgW8 : (W7).setCell ⟨W6.heap.size, 2, none⟩ (.slice none 0 0) = W8 at *
    clear hgW8
    replace q_0 := q.cell (i := 0) rfl
    replace q_1 := q.cell (i := 1) rfl
    replace q_2 := q.cell (i := 2) rfl
    replace q_f0 := q.free 0
    replace q_f1 := q.free 1
    replace q_f2 := q.free 2
    replace q_lt := q.lt
    replace r_0 := r.cell (i := 0) rfl
    replace r_1 := r.cell (i := 1) rfl
    replace r_2 := r.cell (i := 2) rfl
    replace r_f0 := r.free 0
    replace r_f1 := r.free 1
    replace r_f2 := r.free 2
    replace r_lt := r.lt
    have hE10 : Ext w W8 := hSW8 _ _ HSR hE9
    have hr8 : w.heap.size + 1 < W8.heap.size := r_lt
    have hWr : w.heap.size + 1 < W.heap.size := hrB
    have HF : Hid (RVec w de row (.returned (.agg #[.bool sg, .slice a5 n5 c5, .slice none 0 0])) (((W8.setCell ⟨w.heap.size + 1, 0, none⟩ (.bool sg)).setCell ⟨w.heap.size + 1, 1, none⟩ (.slice a5 n5 c5)).setCell ⟨w.heap.size + 1, 2, none⟩ (.slice none 0 0))) :=
      Lib.hid ⟨a5, n5, c5, none, 0, 0, by rw [HSG.out], (h5g.mono (Nat.le_refl _) (kept_set3 _ _ _ _ hWr)).mono hWs (Kept.refl _ _), by rw [hrowN]; exact Sl.empty _ _ _ _, ext_set3 hE10 _ _ _ (by omega)⟩
    clear hE10 hE9 hE8 hE0 h5g hSW8 hKW8 hzW8
    have r2 : Blk ((((W8).setCell ⟨(w.heap.size + 1), 0, none⟩ (.bool sg)).setCell ⟨(w.heap.size + 1), 1, none⟩ (.slice a5 n5 c5)).setCell ⟨(w.heap.size + 1), 2, none⟩ (.slice none 0 0)) _ _ #[.bool sg, .slice a5 n5 c5, .slice none 0 0] := (((r).set 0 (.bool sg)).set 1 (.slice a5 n5 c5)).set 2 (.slice none 0 0)
    have hr0 := r2.cell (i := 0) rfl
    have hr1 := r2.cell (i := 1) rfl
    have hr2 := r2.cell (i := 2) rfl
    go_wp2_with fail
    exact bodyPost_ret (v := .agg #[.bool sg, .slice a5 n5 c5, .slice none 0 0]) (by simp [results, Try.results71, go_sem, hr0, hr1, hr2]) rfl HF.out
  · have hn7b : ((n7 : Int) == 0) = false := by simpa using h70
    have hWr : w.heap.size + 1 < W.heap.size := hrB
    have HF : Hid (RVec w de row (.returned (.agg #[.bool sg, .slice a5 n5 c5, .slice a7 n7 c7])) (((W7.setCell ⟨w.heap.size + 1, 0, none⟩ (.bool sg)).setCell ⟨w.heap.size + 1, 1, none⟩ (.slice a5 n5 c5)).setCell ⟨w.heap.size + 1, 2, none⟩ (.slice a7 n7 c7))) :=
      Lib.hid ⟨a5, n5, c5, a7, n7, c7, by rw [HSG.out], (h5f.mono (Nat.le_refl _) (kept_set3 _ _ _ _ hWr)).mono hWs (Kept.refl _ _), (H7f.mono (Nat.le_refl _) (kept_set3 _ _ _ _ hWr)).mono hWs (Kept.refl _ _), ext_set3 hE9 _ _ _ (by omega)⟩
    clear h70 hE9 hE8 hE0 h5f H7f
    have r2 : Blk ((((W7).setCell ⟨(w.heap.size + 1), 0, none⟩ (.bool sg)).setCell ⟨(w.heap.size + 1), 1, none⟩ (.slice a5 n5 c5)).setCell ⟨(w.heap.size + 1), 2, none⟩ (.slice a7 n7 c7)) _ _ #[.bool sg, .slice a5 n5 c5, .slice a7 n7 c7] := (((r).set 0 (.bool sg)).set 1 (.slice a5 n5 c5)).set 2 (.slice a7 n7 c7)
    have hr0 := r2.cell (i := 0) rfl
    have hr1 := r2.cell (i := 1) rfl
    have hr2 := r2.cell (i := 2) rfl
    go_wp2_with fail
    exact bodyPost_ret (v := .agg #[.bool sg, .slice a5 n5 c5, .slice a7 n7 c7]) (by simp [results, Try.results71, go_sem, hr0, hr1, hr2]) rfl HF.out
end Go.Proofs.Ytbhenelehhiakaa
/-
  qmat: VecFrom; lists of fractions that have come; parts of a slice.
-/
namespace Go.Proofs.Ytbhenelehhiakaa
open Go.RowKit Go.Shelf
attribute [local go_sem] Oper.semAt_some

/-- normal integers, not too long, as integers that lie -/
theorem Sl.kOf {K B : Nat} {w : World} {a : Option Addr} {n c : Nat} {zs : List Int} (h : Sl rIntN B w a n c zs) (hz : ∀ z ∈ zs, nl z.natAbs ≤ K) : Sl (rIntK K) 0 w a n c zs :=
  ⟨h.len, h.cap, h.most, h.nil, fun i hi => by
    obtain ⟨b, o, cs, ha, ⟨a1, n1, c1, rfl, h1⟩, hc⟩ := h.at_ i hi
    refine ⟨b, o, _, ha, ⟨_, a1, n1, c1, _, rfl, h1.mono (Nat.zero_le _) (Kept.refl _ _), ival_norm _, ?_⟩, fun j hj => ?_⟩
    · have := len_norm h1; rw [this]; exact hz _ (List.getElem_mem _)
    · obtain ⟨q1, q2, q3⟩ := hc j hj
      exact ⟨Nat.zero_le _, q2, q3⟩⟩
theorem Sl.rowsK {K B : Nat} {w : World} {a : Option Addr} {n c : Nat} {zss : List (List Int)} (h : Sl rRowsN B w a n c zss) (hz : ∀ zs ∈ zss, ∀ z ∈ zs, nl z.natAbs ≤ K) : Sl (rIntK K).slice 0 w a n c zss :=
  ⟨h.len, h.cap, h.most, h.nil, fun i hi => by
    obtain ⟨b, o, cs, ha, ⟨a1, n1, c1, rfl, h1⟩, hc⟩ := h.at_ i hi
    refine ⟨b, o, _, ha, ⟨a1, n1, c1, rfl, h1.kOf (hz _ (List.getElem_mem _))⟩, fun j hj => ?_⟩
    obtain ⟨q1, q2, q3⟩ := hc j hj
    exact ⟨Nat.zero_le _, q2, q3⟩⟩
theorem nl_comNum {K KL D : Nat} {q : Rat} (hq : nl q.num.natAbs ≤ K) (hD : nl D ≤ KL) : nl (comNum D q).natAbs ≤ K + KL := by
  unfold comNum
  rw [Int.natAbs_mul, Int.natAbs_natCast]
  have h1 := nl_mul q.num.natAbs (D / q.den)
  have h2 := nl_mono (Nat.div_le_self D q.den)
  omega

def RVecErr (w : World) (s : Int) (e : Ending) (w' : World) : Prop := e = .returned (.tuple #[.agg #[.bool false, .slice none 0 0, .slice none 0 0], .int .i64 s]) ∧ Ext w w'
/-- the numerators that are read are bounded -/
theorem Sl.frNl {K B : Nat} {w : World} {a : Option Addr} {n c : Nat} {qs : List (Int × Int)} (h : Sl (rFr K) B w a n c qs) : ∀ q ∈ qs, nl q.1.natAbs ≤ K ∧ nl q.2.natAbs ≤ K := fun q hq => by
  obtain ⟨i, hi, rfl⟩ := List.getElem_of_mem hq
  obtain ⟨b, o, cs, ha, ⟨s, a1, n1, c1, s2, a2, n2, c2, rfl, l, l2, h1, h2, h3, h4, h5, h6⟩, hc⟩ := h.at_ i hi
  exact ⟨Nat.le_trans (nl_of h1 (Lib.hid h3)) h5, Nat.le_trans (nl_of h2 (Lib.hid h4)) h6⟩
theorem allMay_ne {qs : List (Int × Int)} (h : allMay qs = true) : ∀ q ∈ qs, q.2 ≠ 0 := fun q hq => by
  unfold allMay at h
  rw [List.all_eq_true] at h
  simpa using h q hq
theorem nl_numR {K : Nat} {qs : List (Int × Int)} (h : ∀ q ∈ qs, nl q.1.natAbs ≤ K ∧ nl q.2.natAbs ≤ K) (hm : allMay qs = true) : ∀ q ∈ qs.map frR, nl q.num.natAbs ≤ K := fun q hq => by
  obtain ⟨x, hx, rfl⟩ := List.mem_map.1 hq
  exact (nl_frR x.1 x.2 (h x hx).1 (h x hx).2 (allMay_ne hm x hx)).1

set_option maxRecDepth 100000 in
set_option maxHeartbeats 4000000 in
theorem vecFrom_any (K KL : Nat) (hK : K + KL ≤ 8796093022208) (w : World) (a : Option Addr) (n c : Nat) (qs : List (Int × Int)) (h : Sl (rFr K) 0 w a n c qs) (hL : nl (comDen (qs.map frR)) ≤ KL) (D : Nat) (hD : Hid (comDen (qs.map frR) = D)) (hn40 : n ≤ 1099511627776) (s : Bool) (hs : Hid (allMay qs = s)) :
    Calls Try.prog 32 #[.slice a n c] w fun e w' => (s = true ∧ RVecOk w D ((qs.map frR).map (comNum D)) e w') ∨ (s = false ∧ RVecErr w 6 e w') := by
  have hnq : ∀ q ∈ qs, nl q.1.natAbs ≤ K ∧ nl q.2.natAbs ≤ K := h.frNl
  have HNQ := Lib.hid hnq
  have hlen := Lib.hid h.len
  clear hnq
  go_enter Try.func32, Try.ntmps32
  go_wp2_with fail
  have r := Blk.new w 69 #[.bool false, .slice none 0 0, .slice none 0 0]
  have hEW : Ext w (w.alloc (Obj.cells #[.bool false, .slice none 0 0, .slice none 0 0] 69)) := ((Below.refl _ w).alloc (by simp) _)
  generalize hgW : w.alloc (Obj.cells #[.bool false, .slice none 0 0, .slice none 0 0] 69) = W at *
  clear hgW
  replace r_0 := r.cell (i := 0) rfl
  replace r_1 := r.cell (i := 1) rfl
  replace r_2 := r.cell (i := 2) rfl
  replace r_f0 := r.free 0
  replace r_f1 := r.free 1
  replace r_f2 := r.free 2
  replace r_lt := r.lt
  have hWs : w.heap.size < W.heap.size := r_lt
  refine (ratCommon_any K KL (by omega) (by omega) W a n c qs (h.ext (Nat.le_refl _) hEW) hL D hD hn40 s hs).mono ?_
  rintro e w1 (⟨hs1, a5, n5, c5, a6, n6, c6, rfl, h5, h6, hE1⟩ | ⟨hs1, rfl, hE1⟩)
  · have HS1 := Lib.hid hs1
    have hDp : 0 < D := by rw [← hD.out]; exact comDen_pos _
    obtain rfl : n6 = n := by rw [← h6.len, List.length_map, List.length_map]; exact hlen.out
    have h6K : Sl (rIntK (K + KL)) 0 w1 a6 n6 c6 ((qs.map frR).map (comNum D)) := h6.kOf fun z hz => by
      obtain ⟨q, hq, rfl⟩ := List.mem_map.1 hz
      exact nl_comNum (nl_numR HNQ.out (by rw [hs.out]; exact hs1) q hq) (by rw [← hD.out]; exact hL)
    obtain ⟨hmd, hmr⟩ := com_normal [qs.map frR] D (by simpa using hD.out) (by simp [colsOf])
    simp only [List.map_cons, List.map_nil] at hmd hmr
    have HMD := Lib.hid hmd
    have HMR := Lib.hid hmr
    have hn5 : n5 ≤ KL := by have := len_norm h5; rw [this, ← hD.out]; exact hL
    have h5 := Sl.mono h5 (Nat.zero_le _) (Kept.refl _ _)
    clear hs1 hmd hmr h6
    replace r := r.ext hE1; replace r_0 := r.cell (i := 0) rfl; replace r_1 := r.cell (i := 1) rfl; replace r_2 := r.cell (i := 2) rfl; replace r_f0 := r.free 0; replace r_f1 := r.free 1; replace r_f2 := r.free 2; replace r_lt := r.lt
    go_upto_if 14 with (fail)
    have d := Blk.new w1 27 #[.bool false, .slice a5 n5 c5]
    have hEW3 : Ext w1 (w1.alloc (Obj.cells #[.bool false, .slice a5 n5 c5] 27)) := ((Below.refl _ w1).alloc (by simp) _)
    generalize hgW3 : w1.alloc (Obj.cells #[.bool false, .slice a5 n5 c5] 27) = W3 at *
    clear hgW3
    replace d_0 := d.cell (i := 0) rfl
    replace d_1 := d.cell (i := 1) rfl
    replace r := r.ext hEW3; replace r_0 := r.cell (i := 0) rfl; replace r_1 := r.cell (i := 1) rfl; replace r_2 := r.cell (i := 2) rfl; replace r_f0 := r.free 0; replace r_f1 := r.free 1; replace r_f2 := r.free 2; replace r_lt := r.lt
    have h5 := h5.ext (Nat.le_refl _) hEW3
    have h6K := h6K.ext (Nat.le_refl _) hEW3
    have hE3 := Ext.trans hEW (Ext.trans hE1 hEW3)
    have hsz3 := hE3.size
    have hW3s : w.heap.size < W3.heap.size := r_lt
    clear hEW hE1 hEW3 h
    go_wp2_with fail

    (with_reducible refine (vec_any (K + KL) hK W3 false a5 n5 c5 _ h5 (by omega) (D : Int) (Lib.hid (by rw [ival_limbs]; simp)) (by omega) a6 n6 c6 _ h6K (by omega) (D : Int) HMD _ HMR).mono ?_)
    rintro e w5 ⟨a7, n7, c7, a8, n8, c8, rfl, h7, h8, hE5⟩
    replace r := r.ext hE5; replace r_0 := r.cell (i := 0) rfl; replace r_1 := r.cell (i := 1) rfl; replace r_2 := r.cell (i := 2) rfl; replace r_f0 := r.free 0; replace r_f1 := r.free 1; replace r_f2 := r.free 2; replace r_lt := r.lt
    have hE6 := Ext.trans hE3 hE5
    rw [show decide (((D : Nat) : Int) < 0) = false by simp]
    have HF : Hid ((s = true ∧ RVecOk w D ((qs.map frR).map (comNum D)) (.returned (.tuple #[.agg #[.bool false, .slice a7 n7 c7, .slice a8 n8 c8], .int .i64 0])) (((w5.setCell ⟨w.heap.size, 0, none⟩ (.bool false)).setCell ⟨w.heap.size, 1, none⟩ (.slice a7 n7 c7)).setCell ⟨w.heap.size, 2, none⟩ (.slice a8 n8 c8))) ∨ (s = false ∧ RVecErr w 6 (.returned (.tuple #[.agg #[.bool false, .slice a7 n7 c7, .slice a8 n8 c8], .int .i64 0])) (((w5.setCell ⟨w.heap.size, 0, none⟩ (.bool false)).setCell ⟨w.heap.size, 1, none⟩ (.slice a7 n7 c7)).setCell ⟨w.heap.size, 2, none⟩ (.slice a8 n8 c8)))) :=
      Lib.hid (.inl ⟨HS1.out, a7, n7, c7, a8, n8, c8, by simp, (h7.mono (Nat.le_refl _) (kept_set3 _ _ _ _ (by omega))).mono (Nat.le_trans hsz3 (Nat.le_refl _)) (Kept.refl _ _), (h8.mono (Nat.le_refl _) (kept_set3 _ _ _ _ (by omega))).mono hsz3 (Kept.refl _ _), ext_set3 hE6 _ _ _ (Nat.le_refl _)⟩)
    clear h5 h6K h7 h8 hE5 hE6 hE3
    have r2 : Blk ((((w5).setCell ⟨w.heap.size, 0, none⟩ (.bool false)).setCell ⟨w.heap.size, 1, none⟩ (.slice a7 n7 c7)).setCell ⟨w.heap.size, 2, none⟩ (.slice a8 n8 c8)) _ _ #[.bool false, .slice a7 n7 c7, .slice a8 n8 c8] := (((r).set 0 (.bool false)).set 1 (.slice a7 n7 c7)).set 2 (.slice a8 n8 c8)
    have hr0 := r2.cell (i := 0) rfl
    have hr1 := r2.cell (i := 1) rfl
    have hr2 := r2.cell (i := 2) rfl
    go_wp2_with fail
    exact bodyPost_ret (v := .tuple #[.agg #[.bool false, .slice a7 n7 c7, .slice a8 n8 c8], .int .i64 0]) (by simp [results, Try.results32, go_sem, hr0, hr1, hr2]) rfl HF.out
  · have HS1 := Lib.hid hs1
    clear hs1
    replace r := r.ext hE1; replace r_0 := r.cell (i := 0) rfl; replace r_1 := r.cell (i := 1) rfl; replace r_2 := r.cell (i := 2) rfl; replace r_f0 := r.free 0; replace r_f1 := r.free 1; replace r_f2 := r.free 2; replace r_lt := r.lt
    go_upto_if 14 with (fail)
    have d := Blk.new w1 27 #[.bool false, .slice none 0 0]
    have hEW3 : Ext w1 (w1.alloc (Obj.cells #[.bool false, .slice none 0 0] 27)) := ((Below.refl _ w1).alloc (by simp) _)
    generalize hgW3 : w1.alloc (Obj.cells #[.bool false, .slice none 0 0] 27) = W3 at *
    clear hgW3
    replace d_0 := d.cell (i := 0) rfl
    replace d_1 := d.cell (i := 1) rfl
    replace r := r.ext hEW3; replace r_0 := r.cell (i := 0) rfl; replace r_1 := r.cell (i := 1) rfl; replace r_2 := r.cell (i := 2) rfl; replace r_f0 := r.free 0; replace r_f1 := r.free 1; replace r_f2 := r.free 2; replace r_lt := r.lt
    have hE3 := Ext.trans hEW (Ext.trans hE1 hEW3)
    clear hEW hE1 hEW3 h
    have HF : Hid ((s = true ∧ RVecOk w D ((qs.map frR).map (comNum D)) (.returned (.tuple #[.agg #[.bool false, .slice none 0 0, .slice none 0 0], .int .i64 6])) (((W3.setCell ⟨w.heap.size, 0, none⟩ (.bool false)).setCell ⟨w.heap.size, 1, none⟩ (.slice none 0 0)).setCell ⟨w.heap.size, 2, none⟩ (.slice none 0 0))) ∨ (s = false ∧ RVecErr w 6 (.returned (.tuple #[.agg #[.bool false, .slice none 0 0, .slice none 0 0], .int .i64 6])) (((W3.setCell ⟨w.heap.size, 0, none⟩ (.bool false)).setCell ⟨w.heap.size, 1, none⟩ (.slice none 0 0)).setCell ⟨w.heap.size, 2, none⟩ (.slice none 0 0)))) :=
      Lib.hid (.inr ⟨HS1.out, rfl, ext_set3 hE3 _ _ _ (Nat.le_refl _)⟩)
    clear hE3
    have r2 : Blk ((((W3).setCell ⟨w.heap.size, 0, none⟩ (.bool false)).setCell ⟨w.heap.size, 1, none⟩ (.slice none 0 0)).setCell ⟨w.heap.size, 2, none⟩ (.slice none 0 0)) _ _ #[.bool false, .slice none 0 0, .slice none 0 0] := (((r).set 0 (.bool false)).set 1 (.slice none 0 0)).set 2 (.slice none 0 0)
    have hr0 := r2.cell (i := 0) rfl
    have hr1 := r2.cell (i := 1) rfl
    have hr2 := r2.cell (i := 2) rfl
    go_wp2_with fail
    exact bodyPost_ret (v := .tuple #[.agg #[.bool false, .slice none 0 0, .slice none 0 0], .int .i64 6]) (by simp [results, Try.results32, go_sem, hr0, hr1, hr2]) rfl HF.out
end Go.Proofs.Ytbhenelehhiakaa
/-
  qmat: From.
-/
namespace Go.Proofs.Ytbhenelehhiakaa
open Go.RowKit Go.Shelf
attribute [local go_sem] Oper.semAt_some

theorem cellE {w w' : World} (hE : Ext w w') {p : Addr} {v : Value} (h : w.cell? p = some v) : w'.cell? p = some v := (hE.cell (World.block_lt_of_cell? _ _ h)).trans h
/-- a fraction that lies in the world w0 -/
def rFrW (w0 : World) (K : Nat) : Rd (Int × Int) where
  size := 4
  ok _ _ cs q := (rFr K).ok 0 w0 cs q
  len h := (rFr K).len h
  mono h _ _ := h
theorem rFrW_free {w0 : World} {K : Nat} : ∀ B w B' w' cs x, (rFrW w0 K).ok B w cs x → (rFrW w0 K).ok B' w' cs x := fun _ _ _ _ _ _ h => h
theorem ownsRow_cells {W : World} {base : Nat} {e : TypeId} {size : Nat} {v : Value} {k : Nat} {xs : List Value} (h : W.ownsRow base e size v k xs) : ∀ (j : Nat) (o : Obj), v.ownBlock = some j → W.heap[j]? = some o → o.isCells = true := fun j o hj ho => by
  rcases h.2 with ⟨h0, _⟩ | ⟨g, cap, cur, h1, _, h3, _⟩
  · subst h0; cases hj
  · subst h1
    cases hj
    have : W.heap[g]? = some o := ho
    rw [h3] at this; cases this; rfl
theorem ownsRow_own {W W' : World} {base : Nat} {e : TypeId} {size : Nat} {v : Value} {k : Nat} {xs : List Value} {row : Option Nat} (h : W.ownsRow base e size v k xs) (hg : W.grownBy W' row) (hr : ∀ r, row = some r → ∃ o : Obj, W.heap[r]? = some o ∧ o.isCells = false) : W'.ownsRow base e size v k xs := by
  refine h.kept hg ?_
  cases hv : v.ownBlock with
  | none => exact .inl rfl
  | some j =>
    refine .inr fun he => ?_
    obtain ⟨o, h1, h2⟩ := hr j he.symm
    have := ownsRow_cells h j o hv h1
    rw [h2] at this; cases this

theorem Sl.weakQ {α : Type} {r s : Rd α} {B B' : Nat} {w : World} {a : Option Addr} {n c : Nat} {xs : List α} (h : Sl r B w a n c xs) (hB : B' ≤ B) (hs : r.size = s.size) (hok : ∀ cs x, x ∈ xs → r.ok B w cs x → s.ok B' w cs x) : Sl s B' w a n c xs :=
  ⟨h.len, h.cap, h.most, h.nil, fun i hi => by
    obtain ⟨b, o, cs, ha, hr, hc⟩ := h.at_ i hi
    refine ⟨b, o, cs, ha, hok _ _ (List.getElem_mem _) hr, fun j hj => ?_⟩
    rw [← hs]
    obtain ⟨h1, h2, h3⟩ := hc j hj
    exact ⟨Nat.le_trans hB h1, h2, h3⟩⟩
theorem evenB_all {α : Type} {xss : List (List α)} (h : evenB xss = true) : ∀ xs ∈ xss, xs.length = colsOf xss := fun xs hx => by
  unfold evenB at h
  rw [List.all_eq_true] at h
  exact of_decide_eq_true (h xs hx)
theorem colsOf_map {α β : Type} (f : List α → List β) (hf : ∀ xs, (f xs).length = xs.length) (xss : List (List α)) : colsOf (xss.map f) = colsOf xss := by
  cases xss with
  | nil => rfl
  | cons x l => exact hf x

/-- parts of a slice: from k on -/
theorem Sl.from {α : Type} {r : Rd α} {B : Nat} {w : World} {a : Option Addr} {n c : Nat} {xs : List α} (h : Sl r B w a n c xs) {k : Nat} (hk : k ≤ n) : Sl r B w (if c = k then a else a.map (·.add (k * r.size))) (n - k) (c - k) (xs.drop k) := by
  have hl := h.len
  have hc := h.cap
  have hm := h.most
  by_cases hck : c = k
  · rw [if_pos hck]
    refine ⟨by rw [List.length_drop]; omega, by omega, by omega, fun _ => by omega, fun i hi => absurd hi (by rw [List.length_drop]; omega)⟩
  · rw [if_neg hck]
    refine ⟨by rw [List.length_drop]; omega, by omega, by omega, fun e => ?_, fun i hi => ?_⟩
    · cases a with
      | none => have := h.nil rfl; omega
      | some x => cases e
    · rw [List.length_drop] at hi
      obtain ⟨b, o, cs, ha, hr, hcs⟩ := h.at_ (k + i) (by omega)
      subst ha
      refine ⟨b, o + k * r.size, cs, ?_, by rw [List.getElem_drop]; exact hr, fun j hj => ?_⟩
      · show (some ((⟨b, o, none⟩ : Addr).add (k * r.size))) = _
        by_cases hz : k * r.size = 0
        · rw [hz]; simp [Addr.add]
        · simp [Addr.add, hz]
      · have := hcs j hj
        rw [show o + k * r.size + i * r.size + j = o + (k + i) * r.size + j by rw [Nat.add_mul]; omega]
        exact this
/-- of k elements, room for no more -/
theorem Sl.exact {α : Type} {r : Rd α} {B : Nat} {w : World} {a : Option Addr} {n c : Nat} {xs : List α} (h : Sl r B w a n c xs) {k : Nat} (hk : k ≤ n) : Sl r B w a k k (xs.take k) := by
  have h1 := h.take hk
  exact ⟨h1.len, Nat.le_refl _, Nat.le_trans h1.cap h1.most, fun e => by have := h1.nil e; have := h1.cap; omega, h1.at_⟩
theorem slice_hm {t e : TypeId} (hu : Try.prog.underlying t = some (.slice e)) {i : TypeInfo} (hi : Try.prog.info? e = some i) (a : Option Addr) (n c k : Nat) (hk : k ≤ c) (w : World) :
    (Instr.sliceAt t (.slice a n c) none (some (.int .i64 (k : Int))) (some (.int .i64 (k : Int)))).run Try.prog w = .ok (.slice a k k) w := by
  have he : Try.prog.elem t = e := by simp [Program.elem, hu]
  rw [run_sliceAt_slice _ t _ _ _ _ (by rw [he]; exact hu)]
  have hsz : (sizeOf e).run Try.prog w = .ok i.size w := by simp [go_sem, sizeOf, typeInfo, hi]
  simp [Instr.slice, run_underlying hu, Instr.sliceBounds, run_sliceBound, hk, he, hsz, go_sem]
theorem slice_lo {t e : TypeId} (hu : Try.prog.underlying t = some (.slice e)) {i : TypeInfo} (hi : Try.prog.info? e = some i) (a : Option Addr) (n c k : Nat) (hk : k ≤ n) (w : World) :
    (Instr.sliceAt t (.slice a n c) (some (.int .i64 (k : Int))) none none).run Try.prog w = .ok (.slice (if c = k then a else a.map (·.add (k * i.size))) (n - k) (c - k)) w := by
  have he : Try.prog.elem t = e := by simp [Program.elem, hu]
  rw [run_sliceAt_slice _ t _ _ _ _ (by rw [he]; exact hu), run_slice_l _ t a n c (by rw [he]; exact hu) .i64 (k : Int) (by omega) (by omega), he]
  have hsz : (sizeOf e).run Try.prog w = .ok i.size w := by simp [go_sem, sizeOf, typeInfo, hi]
  rw [hsz]
  simp [Result.andThen, sliced]

end Go.Proofs.Ytbhenelehhiakaa
/-
  qmat: From.
-/
namespace Go.Proofs.Ytbhenelehhiakaa
open Go.RowKit Go.Shelf
attribute [local go_sem] Oper.semAt_some

def RFromE (w : World) (s ev : Bool) (D : Nat) (Z : List (List Int)) (e : Ending) (w' : World) : Prop := (s = false ∧ RMatErr w 6 e w') ∨ (s = true ∧ ev = false ∧ RMatErr w 2 e w') ∨ (s = true ∧ ev = true ∧ RMatOk w (D : Int) Z e w')

set_option maxRecDepth 100000 in
set_option maxHeartbeats 8000000 in
theorem qfrom_any (K KL : Nat) (hK : K + KL ≤ 8796093022208) (w : World) (a : Option Addr) (n c : Nat) (qss : List (List (Int × Int))) (h : Sl (rFr K).slice 0 w a n c qss) (hn : n ≤ 1048576) (hrow : Hid (∀ qs ∈ qss, qs.length ≤ 1048576)) (hN : qss.flatten.length ≤ 1048576) (hL : nl (comDen (qss.flatten.map frR)) ≤ KL) (D : Nat) (hD : Hid (comDen (qss.flatten.map frR) = D)) (Z : List (List Int)) (hZ : Hid (qss.map (fun qs => (qs.map frR).map (comNum D)) = Z)) (s : Bool) (hs : Hid (allMay qss.flatten = s)) (ev : Bool) (hev : Hid (evenB qss = ev)) :
    Calls Try.prog 25 #[.slice a n c] w (RFromE w s ev D Z) := by
  obtain ⟨xss, hG, hxq⟩ := fgrid_of h (by omega) (fun zs hz => Nat.le_trans (hrow.out zs hz) (by decide))
  have hfl : xss.flatten.map FrAt.q = qss.flatten := by rw [← hxq]; unfold qssOf; rw [List.map_flatten]
  have hNx : xss.flatten.length ≤ 1048576 := by rw [← hfl, List.length_map] at hN; exact hN
  have HFL := Lib.hid hfl
  have hmost := h.most
  have hcap := h.cap
  have hlen := Lib.hid h.len
  have HS := Lib.hid h
  clear hfl hxq h
  refine (callsIn_wide (n := 5)).1 ?_
  refine callsIn_of_wp_marks Try.func25 rfl trivial ?_ rfl
  simp only [Try.ntmps25, List.size_toArray, List.length_cons, List.length_nil, Nat.reduceAdd, Nat.reduceSub, Array.replicate_succ, Array.replicate_zero, List.push_toArray, List.append_toArray, List.nil_append, List.cons_append]
  gi_wp2_with (fail)
  refine ⟨trivial, (callsIn_wide.2 (gridEachF_any a n c _)).mono ?_⟩
  rintro e w1 ⟨rfl, rfl⟩
  gi_wp2_with (fail)
  have r := Blk.new w 30 #[.bool false, .slice none 0 0, .slice none 0 0]
  have l := Blk.new (w.alloc (Obj.cells #[.bool false, .slice none 0 0, .slice none 0 0] 30)) 55 #[.slice none 0 0]
  replace r := r.ext ((Below.refl _ _).alloc (Nat.le_refl _) (Obj.cells #[.slice none 0 0] 55))
  have t := Blk.new ((w.alloc (Obj.cells #[.bool false, .slice none 0 0, .slice none 0 0] 30)).alloc (Obj.cells #[.slice none 0 0] 55)) 100 #[.slice a n c]
  replace r := r.ext ((Below.refl _ _).alloc (Nat.le_refl _) (Obj.cells #[.slice a n c] 100))
  replace l := l.ext ((Below.refl _ _).alloc (Nat.le_refl _) (Obj.cells #[.slice a n c] 100))
  have hEW : Ext w (((w.alloc (Obj.cells #[.bool false, .slice none 0 0, .slice none 0 0] 30)).alloc (Obj.cells #[.slice none 0 0] 55)).alloc (Obj.cells #[.slice a n c] 100)) := ((((Below.refl _ w).alloc (by simp) _).alloc (by simp) _).alloc (by simp; omega) _)
  generalize hgW : ((w.alloc (Obj.cells #[.bool false, .slice none 0 0, .slice none 0 0] 30)).alloc (Obj.cells #[.slice none 0 0] 55)).alloc (Obj.cells #[.slice a n c] 100) = W at *
  clear hgW
  simp only [World.size_alloc] at l t
  have r_ne_l : ¬ w.heap.size = w.heap.size + 1 := by omega
  have r_ne_t : ¬ w.heap.size = w.heap.size + 1 + 1 := by omega
  have l_ne_r : ¬ w.heap.size + 1 = w.heap.size := by omega
  have l_ne_t : ¬ w.heap.size + 1 = w.heap.size + 1 + 1 := by omega
  have t_ne_r : ¬ w.heap.size + 1 + 1 = w.heap.size := by omega
  have t_ne_l : ¬ w.heap.size + 1 + 1 = w.heap.size + 1 := by omega
  replace r_0 := r.cell (i := 0) rfl
  replace r_1 := r.cell (i := 1) rfl
  replace r_2 := r.cell (i := 2) rfl
  replace r_f0 := r.free 0
  replace r_f1 := r.free 1
  replace r_f2 := r.free 2
  replace r_lt := r.lt
  replace l_0 := l.cell (i := 0) rfl
  replace l_f0 := l.free 0
  replace l_lt := l.lt
  replace t_0 := t.cell (i := 0) rfl
  have hW3 : w.heap.size + 3 ≤ W.heap.size := t.lt
  have hEWs := hEW.size
  refine wpIn_rangeFunc_ownH (α := FrAt K w) rfl (by omega) (gf := 94) (lb := #[.pointer (some ⟨w.heap.size + 1 + 1, 0, none⟩)]) rfl trivial (enters_of Try.func94 (by kernel_rfl) rfl)
    (eachF_stops K w W 4 (by omega) (w.heap.size + 1 + 1) a n c xss hG hEW t.lt t_0) belowK_t (belowK_b hEW.size) (Below.refl _ _) (fun _ => rfl)
    (fun pre W' => Blk W' w.heap.size 30 #[.bool false, .slice none 0 0, .slice none 0 0] ∧ (∃ v, Blk W' (w.heap.size + 1) 55 #[v] ∧ W'.ownsRow W.heap.size 62 4 v pre.length (pre.map FrAt.cells).flatten) ∧ Below w.heap.size w W' ∧ W.heap.size ≤ W'.heap.size)
    (fun _ _ _ => False)
    (fun pre A B row hs hg hr => ⟨hs.1.own hg (fun r e => (hr r e).2), (by
      obtain ⟨v, h1, h2⟩ := hs.2.1
      exact ⟨v, h1.own hg (fun r e => (hr r e).2), ownsRow_own h2 hg (fun r e => (hr r e).2)⟩), hs.2.2.1.grown hg hs.2.2.1.size (fun k e => Nat.le_trans hEW.size (hr k e).1), Nat.le_trans hs.2.2.2 hg.size⟩)
    (fun _ _ _ _ _ hs _ _ => hs)
    ⟨r, ⟨_, l, World.ownsRow_nil _ _ _ _⟩, hEW, Nat.le_refl _⟩
    (fun x a' W' => ∃ Bx, W.heap.size ≤ Bx ∧ Blk W' Bx 62 #[.bool x.b, .slice x.a x.n x.c, .bool x.b2, .slice x.a2 x.n2 x.c2] ∧ a' = { tmps := #[.slice a n c, undef, .pointer (some ⟨w.heap.size, 0, none⟩), .int .i64 0, .pointer (some ⟨w.heap.size + 1, 0, none⟩), .pointer (some ⟨Bx, 0, none⟩), undef, undef, undef, undef, undef, undef, .slice a n c, .func (.func 94) #[] #[.pointer (some ⟨w.heap.size + 1 + 1, 0, none⟩)], .agg #[.bool x.b, .slice x.a x.n x.c, .bool x.b2, .slice x.a2 x.n2 x.c2], undef, undef, undef, undef, undef, undef, undef, undef, undef, undef, undef, undef, undef, undef, undef, undef, undef, undef, undef, undef, undef, undef, undef, undef, undef, undef, undef, undef, undef, undef, undef, undef, undef, undef, undef, undef, undef, undef, undef, undef, undef], defers := [] })
    (fun x a' _ A B row hs hg hr => by
      obtain ⟨Bx, h1, h2, h3⟩ := hs
      exact ⟨Bx, h1, h2.own hg (fun r e => (hr r e).2), h3⟩)
    ?assign ?body ?done ?stop
  case assign =>
    rintro l pre x W' K ⟨h1, ⟨v, h2, h3⟩, h5, h6⟩ hK
    dsimp only [FrAt.v]
    have hEA : Ext W' (W'.alloc (Obj.cells #[.bool x.b, .slice x.a x.n x.c, .bool x.b2, .slice x.a2 x.n2 x.c2] 62)) := (Below.refl _ _).alloc (Nat.le_refl _) _
    gi_wp2
    exact hK _ _ ((KeepsOthers.alloc _ _).from _) ((Below.refl _ W').alloc h5.size _) ⟨h1.ext hEA, ⟨v, h2.ext hEA, h3.alloc _⟩, h5.alloc h5.size _, Nat.le_trans h6 hEA.size⟩ ⟨W'.heap.size, h6, Blk.new _ _ _, rfl⟩
  case body =>
    rintro l0 pre x a' W' hl ⟨rr, hrr⟩ ⟨h1, ⟨v, h2, hown⟩, h5, h6⟩ ⟨Bx, hBx, hX, rfl⟩ hlen
    skip
    skip
    replace h2_0 := h2.cell (i := 0) rfl
    replace h2_f0 := h2.free 0
    replace h2_lt := h2.lt
    replace hX_0 := hX.cell (i := 0) rfl
    replace hX_1 := hX.cell (i := 1) rfl
    replace hX_2 := hX.cell (i := 2) rfl
    replace hX_3 := hX.cell (i := 3) rfl
    have hlt := hown.lt
    have hEA : Ext W' (W'.alloc (Obj.cells #[.bool x.b, .slice x.a x.n x.c, .bool x.b2, .slice x.a2 x.n2 x.c2] 62)) := (Below.refl _ _).alloc (Nat.le_refl _) _
    have HOW := Lib.hid (hown.alloc (Obj.cells #[.bool x.b, .slice x.a x.n x.c, .bool x.b2, .slice x.a2 x.n2 x.c2] 62))
    have hBL : Blk (W'.alloc (Obj.cells #[.bool x.b, .slice x.a x.n x.c, .bool x.b2, .slice x.a2 x.n2 x.c2] 62)) W'.heap.size 62 #[.bool x.b, .slice x.a x.n x.c, .bool x.b2, .slice x.a2 x.n2 x.c2] := Blk.new _ _ _
    have hnews : ∀ (j' : Nat) (u : Value), [Value.bool x.b, .slice x.a x.n x.c, .bool x.b2, .slice x.a2 x.n2 x.c2][j']? = some u → (W'.alloc (Obj.cells #[.bool x.b, .slice x.a x.n x.c, .bool x.b2, .slice x.a2 x.n2 x.c2] 62)).cell? ((⟨W'.heap.size, 0, none⟩ : Addr).add j') = some u := fun j' u hu => by
      match j', hu with
      | 0, hu => cases hu; exact hBL.cell (i := 0) rfl
      | 1, hu => cases hu; exact hBL.cell (i := 1) rfl
      | 2, hu => cases hu; exact hBL.cell (i := 2) rfl
      | 3, hu => cases hu; exact hBL.cell (i := 3) rfl
      | k + 4, hu => simp at hu
    have h1a := Lib.hid (h1.ext hEA)
    have h2a := Lib.hid (h2.ext hEA)
    obtain ⟨i0, hi0, hz0, hz1, hz2⟩ := info_parts info_rat
    have hszA : W.heap.size ≤ (W'.alloc (Obj.cells #[.bool x.b, .slice x.a x.n x.c, .bool x.b2, .slice x.a2 x.n2 x.c2] 62)).heap.size := Nat.le_trans h6 hEA.size
    have H5 := Lib.hid h5
    have HEA := Lib.hid hEA
    clear hBL h1 hown h5 hEA
    gi_wp2_with (gi_at_builtin; refine wpListIn_append_own_at _ rfl _ _ 55 rfl W.heap.size 62 i0 _ 4 64 under_rats hi0 hz0 hz1 hz2 rfl (by decide) _ _ _ rfl HOW.out ⟨W'.heap.size, 0, none⟩ 1 1 [.bool x.b, .slice x.a x.n x.c, .bool x.b2, .slice x.a2 x.n2 x.c2] rfl rfl hnews (by simp [Value.oneCell']) (by unfold maxLen; omega) (by omega) (by exact hszA) ?_; intro v' w1 hown' hgrow _ hat; obtain ⟨g', cap', rfl⟩ := ownsRow_succ hown'; replace h2 := Blk.grown h2a.out hgrow (fun e => by have := (hlt _ e.symm).1; omega); replace h2_0 := h2.cell (i := 0) rfl; replace h2_f0 := h2.free 0; replace h2_lt := h2.lt)
    have hgr2 : w1.grownBy (w1.setCell ⟨w.heap.size + 1, 0, none⟩ (.slice (some ⟨g', 0, none⟩) (pre.length + 1) cap')) (some (w.heap.size + 1)) := grownBy_setCell _ _ _ _
    have hne : (Value.slice (some ⟨g', 0, none⟩) (pre.length + 1) cap').ownBlock ≠ some (w.heap.size + 1) := fun e => by have := (hown'.lt _ e).1; omega
    have hsz1 := hgrow.size
    refine ⟨(((keepsOthers_ext HEA.out).trans (KeepsOthers.of_grownBy hgrow (ownsRow_cells HOW.out))).trans (KeepsOthers.setCell _ _ _)).from _, ?_, ?_, ?_, ?_, ?_⟩
    · exact Below.setCell (((HEA.out.mono H5.out.size).grown hgrow (Nat.le_trans H5.out.size HEA.out.size) (fun k e => by have := (hlt k e).1; omega))) (p := ⟨w.heap.size + 1, 0, none⟩) (by simp) _
    · exact (Blk.grown h1a.out hgrow (fun e => by have := (hlt _ e.symm).1; omega)).grown hgr2 (fun e => by have := Option.some.inj e; omega)
    · refine ⟨_, h2.set 0 _, ?_⟩
      have e1 : (pre ++ [x]).length = pre.length + 1 := by simp
      have e2 : ((pre ++ [x]).map FrAt.cells).flatten = (pre.map FrAt.cells).flatten ++ [.bool x.b, .slice x.a x.n x.c, .bool x.b2, .slice x.a2 x.n2 x.c2] := by simp [FrAt.cells]
      rw [e1, e2]
      exact hown'.kept hgr2 (.inr hne)
    · exact Below.setCell (H5.out.trans ((HEA.out.mono H5.out.size).grown hgrow (Nat.le_trans H5.out.size HEA.out.size) (fun k e => by have := (hlt k e).1; omega))) (p := ⟨w.heap.size + 1, 0, none⟩) (by simp) _
    · simp only [World.setCell, Array.size_modify]; omega
  case done =>
    rintro D0 xs W1 hD0 rfl ⟨h1, ⟨v, h2, hown⟩, h5, h6⟩ mark
    have hgrp : Grp (rFrW w K) W.heap.size 62 W1 v xss.flatten.length (xss.flatten.map FrAt.q) (xss.flatten.map FrAt.cells) := Grp.free rFrW_free (List.length_map ..) (List.length_map ..) hown (fun k hk hx => by
      rw [List.getElem_map, List.getElem_map]
      exact (show (rFrW w K).ok 0 W1 _ _ from (xss.flatten[k]'(by rw [List.length_map] at hk; exact hk)).ok)) h6
    obtain ⟨a1, c1, rfl, hsl⟩ := hgrp.sl
    rw [HFL.out] at hsl
    have hsl2 : Sl (rFr K) 0 W1 a1 xss.flatten.length c1 qss.flatten := hsl.weak (Nat.zero_le _) rfl fun cs x hx => (rFr K).mono (show (rFr K).ok 0 w cs x from hx) (Nat.le_refl _) (Ext.kept h5)
    have HSL := Lib.hid hsl2
    obtain ⟨N, hNN⟩ : ∃ N, xss.flatten.length = N := ⟨_, rfl⟩
    rw [hNN] at HSL hNx h2
    have HNN := Lib.hid hNN
    clear hown hgrp hsl hsl2 hNN r r_0 r_1 r_2 r_f0 r_f1 r_f2 r_lt l l_0 l_f0 l_lt t t_0 hEW
    skip
    skip
    replace h1_0 := h1.cell (i := 0) rfl
    replace h1_1 := h1.cell (i := 1) rfl
    replace h1_2 := h1.cell (i := 2) rfl
    replace h1_f0 := h1.free 0
    replace h1_f1 := h1.free 1
    replace h1_f2 := h1.free 2
    replace h1_lt := h1.lt
    replace h2_0 := h2.cell (i := 0) rfl
    have HNQ := Lib.hid HSL.out.frNl
    gi_wp2_with (fail)
    refine ⟨trivial, (callsIn_wide.2 (ratCommon_any K KL (by omega) (by omega) W1 a1 N c1 qss.flatten HSL.out hL D hD (by omega) s hs)).mono ?_⟩
    rintro e w2 (⟨hs1, a5, n5, c5, a6, n6, c6, rfl, h5', h6', hE2⟩ | ⟨hs1, rfl, hE2⟩)
    · have HS1 := Lib.hid hs1
      have hDp : 0 < D := by rw [← hD.out]; exact comDen_pos _
      have hNM : ∀ z ∈ (qss.flatten.map frR).map (comNum D), nl z.natAbs ≤ K + KL := fun z hz => by
        obtain ⟨q, hq, rfl⟩ := List.mem_map.1 hz
        exact nl_comNum (nl_numR HNQ.out (by rw [hs.out]; exact hs1) q hq) (by rw [← hD.out]; exact hL)
      have hZF : (qss.flatten.map frR).map (comNum D) = Z.flatten := by rw [← hZ.out, List.map_flatten, List.map_flatten, List.map_map]; rfl
      rw [hZF] at h6' hNM
      obtain rfl : n6 = N := by rw [← h6'.len, ← hZF, List.length_map, List.length_map]; exact HSL.out.len
      have hZN : Z.flatten.length = n6 := h6'.len
      have hZl : Z.length = n := by rw [← hZ.out, List.length_map]; exact hlen.out
      have HZN := Lib.hid hZN
      have HZL := Lib.hid hZl
      have HNM := Lib.hid hNM
      have hn5 : n5 ≤ KL := by have := len_norm h5'; rw [this, ← hD.out]; exact hL
      clear hs1 hNM hZF hZN hZl
      gi_upto_if 26 with (fail)
      have d := Blk.new w2 27 #[.bool false, .slice a5 n5 c5]
      have hEW3 : Ext w2 (w2.alloc (Obj.cells #[.bool false, .slice a5 n5 c5] 27)) := ((Below.refl _ w2).alloc (by simp) _)
      generalize hgW3 : w2.alloc (Obj.cells #[.bool false, .slice a5 n5 c5] 27) = W3 at *
      clear hgW3
      replace d_0 := d.cell (i := 0) rfl
      replace d_1 := d.cell (i := 1) rfl
      have hE3 := Ext.trans h5 (Ext.trans hE2 hEW3)
      have mark := ((Ext.trans hE2 hEW3).block D0 (Array.getElem?_eq_some_iff.1 mark).1).trans mark
      replace h1 := h1.ext (Ext.trans hE2 hEW3); replace h1_0 := h1.cell (i := 0) rfl; replace h1_1 := h1.cell (i := 1) rfl; replace h1_2 := h1.cell (i := 2) rfl; replace h1_f0 := h1.free 0; replace h1_f1 := h1.free 1; replace h1_f2 := h1.free 2; replace h1_lt := h1.lt
      have HE3 := Lib.hid hE3
      have H6 := Lib.hid (h6'.ext (Nat.le_refl _) hEW3)
      have H5 := Lib.hid (h5'.ext (Nat.zero_le _) hEW3)
      have HD3 := Lib.hid d
      have HH1 := Lib.hid h1
      have HMK := Lib.hid mark
      have hsz3 := hE3.size
      have hrW3 : w.heap.size < W3.heap.size := h1_lt
      clear hE3 hE2 hEW3 h5 h5' h6' mark
      gi_wp2
      refine ⟨trivial, (callsIn_wide.2 (evenF_any (rFr K) 0 W3 a n c qss (HS.out.ext (Nat.le_refl _) HE3.out) ev hev)).mono ?_⟩
      rintro e w4 ⟨rfl, rfl⟩
      cases ev with
      | false =>
        have hE4 := ext_set3 HE3.out (.bool false) (.slice none 0 0) (.slice none 0 0) (Nat.le_refl w.heap.size)
        have HF : Hid (∀ W9 : World, (((W3.setCell ⟨w.heap.size, 0, none⟩ (.bool false)).setCell ⟨w.heap.size, 1, none⟩ (.slice none 0 0)).setCell ⟨w.heap.size, 2, none⟩ (.slice none 0 0)).grownBy W9 (some D0) → (∀ r, some D0 = some r → ∃ o : Obj, (((W3.setCell ⟨w.heap.size, 0, none⟩ (.bool false)).setCell ⟨w.heap.size, 1, none⟩ (.slice none 0 0)).setCell ⟨w.heap.size, 2, none⟩ (.slice none 0 0)).heap[r]? = some o ∧ o.isCells = false) → RFromE w s false D Z (.returned (.tuple #[.agg #[.bool false, .slice none 0 0, .slice none 0 0], .int .i64 2])) W9) :=
          Lib.hid fun W9 hg hr => .inr (.inl ⟨HS1.out, rfl, rfl, hE4.grown hg hE4.size (fun k e => by cases e; omega)⟩)
        have mark := HMK.out
        clear hE4
        have HRz := Lib.hid ((((h1).set 0 (.bool false)).set 1 (.slice none 0 0)).set 2 (.slice none 0 0))
        have HMz := Lib.hid ((((KeepsOthers.setCell (W3) ⟨w.heap.size, 0, none⟩ (.bool false)).trans (KeepsOthers.setCell (W3.setCell ⟨w.heap.size, 0, none⟩ (.bool false)) ⟨w.heap.size, 1, none⟩ (.slice none 0 0))).trans (KeepsOthers.setCell ((W3.setCell ⟨w.heap.size, 0, none⟩ (.bool false)).setCell ⟨w.heap.size, 1, none⟩ (.slice none 0 0)) ⟨w.heap.size, 2, none⟩ (.slice none 0 0))).same D0 _ mark rfl)
        clear mark
        gi_wp2
        generalize (((W3.setCell ⟨w.heap.size, 0, none⟩ (.bool false)).setCell ⟨w.heap.size, 1, none⟩ (.slice none 0 0)).setCell ⟨w.heap.size, 2, none⟩ (.slice none 0 0)) = W20 at *
        refine ⟨by simp, .inl ⟨_, _, rfl, run_takeDeferred HMz.out, ?_⟩⟩
        have hrowz : ∀ r, some D0 = some r → ∃ o : Obj, W20.heap[r]? = some o ∧ o.isCells = false := fun r e => by cases e; exact ⟨_, HMz.out, rfl⟩
        have hgpz := grownBy_putObj' W20 D0 (.deferred none)
        have hr3 := HRz.out.own hgpz hrowz
        have q0 := hr3.cell (i := 0) rfl
        have q1 := hr3.cell (i := 1) rfl
        have q2 := hr3.cell (i := 2) rfl
        exact ⟨.tuple #[.agg #[.bool false, .slice none 0 0, .slice none 0 0], .int .i64 2], by simp [results, Try.results25, go_sem, q0, q1, q2], HF.out _ hgpz hrowz⟩
      | true =>
        clear h1 h1_0 h1_1 h1_2 h1_f0 h1_f1 h1_f2 h1_lt d d_0 d_1 h2 h2_0
        gi_wp2
        gi_loopg [7, 9, 35] n (fun q v7 v9 v35 wr => ∃ (i m : Nat) (a7 : Option Addr) (c7 : Nat), i ≤ n ∧ q = n - i ∧ v35 = .int .i64 (i : Int) ∧ v7 = .slice a7 (n6 - m) c7 ∧ m ≤ n6 ∧ Hid (m = (Z.take i).flatten.length) ∧ Hid (Sl rIntN W1.heap.size W3 a7 (n6 - m) c7 (Z.flatten.drop m)) ∧ Hid (∃ css, Grp (rRowO W3 W1.heap.size) W3.heap.size 67 wr v9 i (Z.take i) css) ∧ Hid (Ext W3 wr))
        case atStart => exact ⟨0, 0, a6, c6, Nat.zero_le _, by omega, rfl, rfl, Nat.zero_le _, Lib.hid rfl, H6, Lib.hid ⟨[], Grp.nil _ _ _ _⟩, Lib.hid (Ext.refl _)⟩
        case round =>
          obtain ⟨i, m, a7, c7, hi, hq, rfl, rfl, hm, HM, H7, HGi, HE⟩ := hrel
          by_cases hin : i < n
          · obtain ⟨b2, o2, ar, n1, cr, x, rfl, hb2, hx, hc2, hX⟩ := Sl.getRow (HS.out.ext (Nat.le_refl _) (Ext.trans HE3.out HE.out)) hin
            have hil : i < Z.length := by rw [HZL.out]; exact hin
            have hzl : Z[i].length = n1 := by
              rw [← hX.len]
              have : Z[i]? = some ((x.map frR).map (comNum D)) := by rw [← hZ.out, List.getElem?_map, hx]; rfl
              rw [List.getElem?_eq_getElem hil] at this
              rw [Option.some.inj this, List.length_map, List.length_map]
            have hft := flat_take Z i hil
            have hfl2 := flat_len_take Z (i + 1)
            have hfd := flat_drop_take Z i hil
            rw [hft, List.length_append, ← HM.out, hzl, HZN.out] at hfl2
            rw [← HM.out, hzl] at hfd
            have HM2 : Hid (m + n1 = (Z.take (i + 1)).flatten.length) := Lib.hid (by rw [hft, List.length_append, ← HM.out, hzl])
            have hcap7 := H7.out.cap
            have HROW := Lib.hid (H7.out.exact (k := n1) (by omega))
            rw [hfd] at HROW
            have h8 := H7.out.from (k := n1) (by omega)
            rw [List.drop_drop, Nat.sub_sub] at h8
            have HT : Hid (Z.take (i + 1) = Z.take i ++ [Z[i]]) := Lib.hid (List.take_succ_eq_append_getElem hil)
            obtain ⟨j0, hj0, hy0, hy1, hy2⟩ := info_parts info_int
            have hs1 := slice_hm under_ints hj0 a7 (n6 - m) c7 n1 (by omega)
            have hs2 := slice_lo under_ints hj0 a7 (n6 - m) c7 n1 (by omega)
            rw [hy1, Nat.sub_sub] at hs2
            obtain ⟨zi, hzi⟩ : ∃ z, Z[i] = z := ⟨_, rfl⟩
            rw [hzi] at HROW HT
            change Sl rIntN W1.heap.size W3 (if c7 = n1 then a7 else a7.map (·.add (n1 * 2))) _ _ _ at h8
            obtain ⟨a8, ha8⟩ : ∃ z, (if c7 = n1 then a7 else a7.map (·.add (n1 * 2))) = z := ⟨_, rfl⟩
            rw [ha8] at h8 hs2
            have H8 := Lib.hid h8
            obtain ⟨css, hGi⟩ := HGi.out
            have hlt := hGi.own.lt
            have hEA : Ext wr (wr.alloc (Obj.cells #[.slice a7 n1 n1] 67)) := (Below.refl _ _).alloc (Nat.le_refl _) _
            have hBL : Blk (wr.alloc (Obj.cells #[.slice a7 n1 n1] 67)) wr.heap.size 67 #[.slice a7 n1 n1] := Blk.new _ _ _
            have hnews : ∀ (j' : Nat) (u : Value), [Value.slice a7 n1 n1][j']? = some u → (wr.alloc (Obj.cells #[.slice a7 n1 n1] 67)).cell? ((⟨wr.heap.size, 0, none⟩ : Addr).add j') = some u := fun j' u hu => by
              match j', hu with
              | 0, hu => cases hu; exact hBL.cell (i := 0) rfl
              | k + 1, hu => simp at hu
            have HG9 := Lib.hid (hGi.keep hEA.size (fun b _ h2 => hEA.block b h2))
            have HE9 := Lib.hid (Ext.trans HE.out hEA)
            have hszA := HE9.out.size
            obtain ⟨i0, hi0, hz0, hz1, hz2⟩ := info_parts info_ints
            clear hX hx hzl hft hfl2 hfd h8 hzi ha8 hGi hBL hEA hj0 hy0 hy1 hy2 hil
            gi_wp2_with (gi_at_builtin; refine wpListIn_append_own_at _ rfl _ _ 28 rfl W3.heap.size 67 i0 _ 1 24 under_intss hi0 hz0 hz1 hz2 rfl (by decide) _ _ _ rfl HG9.out.own ⟨wr.heap.size, 0, none⟩ 1 1 [.slice a7 n1 n1] rfl rfl hnews (by simp [Value.oneCell']) (by unfold maxLen; omega) (by omega) (by exact hszA) ?_; intro v' w1 hown' hgrow _ hat)
            gi_roundg (n - (i + 1))
            case measure => omega
            case rel =>
              refine ⟨i + 1, m + n1, a8, c7 - n1, by omega, rfl, by go_num, rfl, by have := H8.out.len; have := HM2.out; have := flat_len_take Z (i + 1); rw [← HM2.out, HZN.out] at this; exact this, HM2, H8, Lib.hid ⟨css ++ [[.slice a7 n1 n1]], ?_⟩, Lib.hid (HE9.out.grown hgrow hszA (fun k e => (hlt k e).1))⟩
              rw [HT.out]
              exact HG9.out.add (x := zi) (Bx := (wr.alloc (Obj.cells #[.slice a7 n1 n1] 67)).heap.size) hown' hgrow hat ⟨a7, n1, n1, rfl, HROW.out⟩ (by omega) (fun k e => (HG9.out.own.lt k e).2)
          · obtain rfl : i = n := by omega
            obtain ⟨css, hGi⟩ := HGi.out
            rw [List.take_of_length_le (by rw [HZL.out]; exact Nat.le_refl _)] at hGi
            obtain ⟨aa, ca, rfl, hsl⟩ := hGi.sl
            have hslK : Sl (rIntK (K + KL)).slice 0 wr aa i ca Z := hsl.weakQ (Nat.zero_le _) rfl fun cs zs hz hok => by
              obtain ⟨a9, n9, c9, rfl, h9⟩ := hok
              exact ⟨a9, n9, c9, rfl, (h9.ext (Nat.le_refl _) HE.out).kOf fun z hzz => HNM.out z (List.mem_flatten.2 ⟨zs, hz, hzz⟩)⟩
            obtain ⟨yss, hG2, hyz⟩ := grid_of (intB_of_K hK hslK) (by omega) (fun zs hz => by
              rw [← hZ.out] at hz
              obtain ⟨qs, hq, rfl⟩ := List.mem_map.1 hz
              rw [List.length_map, List.length_map]
              exact Nat.le_trans (hrow.out qs hq) (by decide))
            obtain ⟨hmd, hmr⟩ := com_normal (qss.map fun qs => qs.map frR) D (by rw [← List.map_flatten]; exact hD.out) (fun qs hq => by
              obtain ⟨x, hx, rfl⟩ := List.mem_map.1 hq
              rw [List.length_map, colsOf_map _ (fun xs => List.length_map ..)]
              exact evenB_all hev.out x hx)
            have hZ2 : ((qss.map fun qs => qs.map frR).map fun qs => qs.map (comNum D)) = Z := by rw [List.map_map]; exact hZ.out
            rw [hZ2] at hmd hmr
            have HYZ := Lib.hid hyz
            have HMD := Lib.hid hmd
            have HMR := Lib.hid hmr
            have HG2 := Lib.hid hG2
            have h5 := H5.out.ext (Nat.le_refl _) HE.out
            have h1 := HH1.out.ext HE.out
            have d := HD3.out.ext HE.out
            have hszr := HE.out.size
            skip
            skip
            replace h1_0 := h1.cell (i := 0) rfl
            replace h1_1 := h1.cell (i := 1) rfl
            replace h1_2 := h1.cell (i := 2) rfl
            replace h1_f0 := h1.free 0
            replace h1_f1 := h1.free 1
            replace h1_f2 := h1.free 2
            replace h1_lt := h1.lt
            replace d_0 := d.cell (i := 0) rfl
            replace d_1 := d.cell (i := 1) rfl
            clear hsl hslK hGi HGi hyz hmd hmr hG2 hZ2
            gi_wp2
            refine ⟨trivial, (callsIn_wide.2 (made_any wr false a5 aa n5 c5 i ca (limbs D) yss h5 HG2.out (by omega) (D : Int) (Lib.hid (by rw [ival_limbs]; simp)) (by omega))).mono ?_⟩
            rw [HYZ.out, HMD.out, HMR.out]
            rintro e w5 ⟨a9, n9, c9, a10, n10, c10, rfl, h9, h10, hE5⟩
            rw [show decide (((D : Nat) : Int) < 0) = false by simp]
            have hE6 := Ext.trans HE.out hE5
            have mark := (hE6.block D0 (Array.getElem?_eq_some_iff.1 HMK.out).1).trans HMK.out
            replace h1 := h1.ext hE5; replace h1_0 := h1.cell (i := 0) rfl; replace h1_1 := h1.cell (i := 1) rfl; replace h1_2 := h1.cell (i := 2) rfl; replace h1_f0 := h1.free 0; replace h1_f1 := h1.free 1; replace h1_f2 := h1.free 2; replace h1_lt := h1.lt
            have hE7 := ext_set3 (Ext.trans HE3.out hE6) (.bool false) (.slice a9 n9 c9) (.slice a10 n10 c10) (Nat.le_refl w.heap.size)
            have h9f := (h9.mono (Nat.le_refl _) (kept_set3 w5 (.bool false) (.slice a9 n9 c9) (.slice a10 n10 c10) (show w.heap.size < wr.heap.size by omega))).mono (show w.heap.size ≤ wr.heap.size by omega) (Kept.refl _ _)
            have h10f := (h10.mono (Nat.le_refl _) (kept_set3 w5 (.bool false) (.slice a9 n9 c9) (.slice a10 n10 c10) (show w.heap.size < wr.heap.size by omega))).mono (show w.heap.size ≤ wr.heap.size by omega) (Kept.refl _ _)
            have HF : Hid (∀ W9 : World, (((w5.setCell ⟨w.heap.size, 0, none⟩ (.bool false)).setCell ⟨w.heap.size, 1, none⟩ (.slice a9 n9 c9)).setCell ⟨w.heap.size, 2, none⟩ (.slice a10 n10 c10)).grownBy W9 (some D0) → (∀ r, some D0 = some r → ∃ o : Obj, (((w5.setCell ⟨w.heap.size, 0, none⟩ (.bool false)).setCell ⟨w.heap.size, 1, none⟩ (.slice a9 n9 c9)).setCell ⟨w.heap.size, 2, none⟩ (.slice a10 n10 c10)).heap[r]? = some o ∧ o.isCells = false) → RFromE w s true D Z (.returned (.tuple #[.agg #[.bool false, .slice a9 n9 c9, .slice a10 n10 c10], .int .i64 0])) W9) :=
              Lib.hid fun W9 hg hr => .inr (.inr ⟨HS1.out, rfl, a9, n9, c9, a10, n10, c10, by simp, h9f.mono (Nat.le_refl _) (kept_own hg hr), h10f.mono (Nat.le_refl _) (kept_own hg hr), hE7.grown hg hE7.size (fun k e => by cases e; omega)⟩)
            clear hE7 h9f h10f h9 h10 hE5 hE6 h5 d d_0 d_1
            have HRz := Lib.hid ((((h1).set 0 (.bool false)).set 1 (.slice a9 n9 c9)).set 2 (.slice a10 n10 c10))
            have HMz := Lib.hid ((((KeepsOthers.setCell (w5) ⟨w.heap.size, 0, none⟩ (.bool false)).trans (KeepsOthers.setCell (w5.setCell ⟨w.heap.size, 0, none⟩ (.bool false)) ⟨w.heap.size, 1, none⟩ (.slice a9 n9 c9))).trans (KeepsOthers.setCell ((w5.setCell ⟨w.heap.size, 0, none⟩ (.bool false)).setCell ⟨w.heap.size, 1, none⟩ (.slice a9 n9 c9)) ⟨w.heap.size, 2, none⟩ (.slice a10 n10 c10))).same D0 _ mark rfl)
            clear mark
            gi_wp2
            generalize (((w5.setCell ⟨w.heap.size, 0, none⟩ (.bool false)).setCell ⟨w.heap.size, 1, none⟩ (.slice a9 n9 c9)).setCell ⟨w.heap.size, 2, none⟩ (.slice a10 n10 c10)) = W20 at *
            refine ⟨by simp, .inl ⟨_, _, rfl, run_takeDeferred HMz.out, ?_⟩⟩
            have hrowz : ∀ r, some D0 = some r → ∃ o : Obj, W20.heap[r]? = some o ∧ o.isCells = false := fun r e => by cases e; exact ⟨_, HMz.out, rfl⟩
            have hgpz := grownBy_putObj' W20 D0 (.deferred none)
            have hr3 := HRz.out.own hgpz hrowz
            have q0 := hr3.cell (i := 0) rfl
            have q1 := hr3.cell (i := 1) rfl
            have q2 := hr3.cell (i := 2) rfl
            exact ⟨.tuple #[.agg #[.bool false, .slice a9 n9 c9, .slice a10 n10 c10], .int .i64 0], by simp [results, Try.results25, go_sem, q0, q1, q2], HF.out _ hgpz hrowz⟩
    · have HS1 := Lib.hid hs1
      clear hs1
      gi_upto_if 26 with (fail)
      have d := Blk.new w2 27 #[.bool false, .slice none 0 0]
      have hEW3 : Ext w2 (w2.alloc (Obj.cells #[.bool false, .slice none 0 0] 27)) := ((Below.refl _ w2).alloc (by simp) _)
      generalize hgW3 : w2.alloc (Obj.cells #[.bool false, .slice none 0 0] 27) = W3 at *
      clear hgW3
      replace d_0 := d.cell (i := 0) rfl
      replace d_1 := d.cell (i := 1) rfl
      have hE3 := Ext.trans h5 (Ext.trans hE2 hEW3)
      have mark := ((Ext.trans hE2 hEW3).block D0 (Array.getElem?_eq_some_iff.1 mark).1).trans mark
      replace h1 := h1.ext (Ext.trans hE2 hEW3); replace h1_0 := h1.cell (i := 0) rfl; replace h1_1 := h1.cell (i := 1) rfl; replace h1_2 := h1.cell (i := 2) rfl; replace h1_f0 := h1.free 0; replace h1_f1 := h1.free 1; replace h1_f2 := h1.free 2; replace h1_lt := h1.lt
      have hE4 := ext_set3 hE3 (.bool false) (.slice none 0 0) (.slice none 0 0) (Nat.le_refl w.heap.size)
      have HF : Hid (∀ W9 : World, (((W3.setCell ⟨w.heap.size, 0, none⟩ (.bool false)).setCell ⟨w.heap.size, 1, none⟩ (.slice none 0 0)).setCell ⟨w.heap.size, 2, none⟩ (.slice none 0 0)).grownBy W9 (some D0) → (∀ r, some D0 = some r → ∃ o : Obj, (((W3.setCell ⟨w.heap.size, 0, none⟩ (.bool false)).setCell ⟨w.heap.size, 1, none⟩ (.slice none 0 0)).setCell ⟨w.heap.size, 2, none⟩ (.slice none 0 0)).heap[r]? = some o ∧ o.isCells = false) → RFromE w s ev D Z (.returned (.tuple #[.agg #[.bool false, .slice none 0 0, .slice none 0 0], .int .i64 6])) W9) :=
        Lib.hid fun W9 hg hr => .inl ⟨HS1.out, rfl, hE4.grown hg hE4.size (fun k e => by cases e; omega)⟩
      clear hE3 hE4 hE2 hEW3 d d_0 d_1 h5
      have HRz := Lib.hid ((((h1).set 0 (.bool false)).set 1 (.slice none 0 0)).set 2 (.slice none 0 0))
      have HMz := Lib.hid ((((KeepsOthers.setCell (W3) ⟨w.heap.size, 0, none⟩ (.bool false)).trans (KeepsOthers.setCell (W3.setCell ⟨w.heap.size, 0, none⟩ (.bool false)) ⟨w.heap.size, 1, none⟩ (.slice none 0 0))).trans (KeepsOthers.setCell ((W3.setCell ⟨w.heap.size, 0, none⟩ (.bool false)).setCell ⟨w.heap.size, 1, none⟩ (.slice none 0 0)) ⟨w.heap.size, 2, none⟩ (.slice none 0 0))).same D0 _ mark rfl)
      clear mark
      gi_wp2
      generalize (((W3.setCell ⟨w.heap.size, 0, none⟩ (.bool false)).setCell ⟨w.heap.size, 1, none⟩ (.slice none 0 0)).setCell ⟨w.heap.size, 2, none⟩ (.slice none 0 0)) = W20 at *
      refine ⟨by simp, .inl ⟨_, _, rfl, run_takeDeferred HMz.out, ?_⟩⟩
      have hrowz : ∀ r, some D0 = some r → ∃ o : Obj, W20.heap[r]? = some o ∧ o.isCells = false := fun r e => by cases e; exact ⟨_, HMz.out, rfl⟩
      have hgpz := grownBy_putObj' W20 D0 (.deferred none)
      have hr3 := HRz.out.own hgpz hrowz
      have q0 := hr3.cell (i := 0) rfl
      have q1 := hr3.cell (i := 1) rfl
      have q2 := hr3.cell (i := 2) rfl
      exact ⟨.tuple #[.agg #[.bool false, .slice none 0 0, .slice none 0 0], .int .i64 6], by simp [results, Try.results25, go_sem, q0, q1, q2], HF.out _ hgpz hrowz⟩
  case stop => rintro D c pre W' _ _ h _; exact h.elim
end Go.Proofs.Ytbhenelehhiakaa
