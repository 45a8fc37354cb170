/-
  simileref11: Stack.
-/
import Derived.Test.YtbhenelehhiakaaFrom28
import Derived.Test.YtbhenelehhiakaaFrom29
set_option linter.unusedVariables false
set_option linter.unusedSimpArgs false
namespace Go.Proofs.Ytbhenelehhiakaa
open Go.RowKit

/-- more elements at once -/
theorem Grp.addMany {α : Type} {r : Rd α} {B : Nat} {e : TypeId} {w w' : World} {v v' : Value} {n m : Nat} {xs xs2 : List α} {css css2 : List (List Value)} (h : Grp r B e w v n xs css)
    (hown : w'.ownsRow B e r.size v' (n + m) (css.flatten ++ css2.flatten)) (hg : w.grownBy w' v.ownBlock) (hat : v'.ownBlock = v.ownBlock ∨ v'.ownBlock = some w.heap.size) (hl : css2.length = m) (hl2 : xs2.length = m)
    (hx : ∀ k (hk : k < css2.length) (hx : k < xs2.length), ∃ (Wk : World) (Bk : Nat), B ≤ Bk ∧ r.ok Bk Wk css2[k] xs2[k] ∧ Wk.heap.size ≤ w.heap.size ∧ ∀ b, Bk ≤ b → b < Wk.heap.size → w.heap[b]? = Wk.heap[b]? ∧ v.ownBlock ≠ some b) : Grp r B e w' v' (n + m) (xs ++ xs2) (css ++ css2) :=
  ⟨by rw [List.length_append, h.len, hl], by rw [List.length_append, h.xlen, hl2], by rw [List.flatten_append]; exact hown, fun k hk hkx => by
    have fin : ∀ (Wk : World) (Bk : Nat), Wk.heap.size ≤ w.heap.size → (∀ b, Bk ≤ b → b < Wk.heap.size → w.heap[b]? = Wk.heap[b]? ∧ v.ownBlock ≠ some b) → ∀ b, Bk ≤ b → b < Wk.heap.size → w'.heap[b]? = Wk.heap[b]? ∧ v'.ownBlock ≠ some b := fun Wk Bk p3 p4 b h1 h2 => by
      obtain ⟨q1, q2⟩ := p4 b h1 h2
      refine ⟨(hg.block b (Nat.lt_of_lt_of_le h2 p3) (fun e => q2 e.symm)).trans q1, ?_⟩
      rcases hat with hat | hat
      · rw [hat]; exact q2
      · rw [hat]; intro e; cases e; omega
    by_cases hkn : k < css.length
    · obtain ⟨Wk, Bk, p1, p2, p3, p4⟩ := h.parts k hkn (by rw [h.xlen, ← h.len]; exact hkn)
      refine ⟨Wk, Bk, p1, ?_, Nat.le_trans p3 hg.size, fin Wk Bk p3 p4⟩
      rw [List.getElem_append_left hkn, List.getElem_append_left (by rw [h.xlen, ← h.len]; exact hkn)]
      exact p2
    · have hxe : xs.length = css.length := by rw [h.xlen, h.len]
      obtain ⟨Wk, Bk, p1, p2, p3, p4⟩ := hx (k - css.length) (by rw [List.length_append] at hk; omega) (by rw [List.length_append] at hkx; omega)
      refine ⟨Wk, Bk, p1, ?_, Nat.le_trans p3 hg.size, fin Wk Bk p3 p4⟩
      rw [List.getElem_append_right (by omega), List.getElem_append_right (by omega)]
      simpa only [hxe] using p2⟩

theorem fracs_append (d : Int) (l l2 : List (List Int)) : fracs d (l ++ l2) = fracs d l ++ fracs d l2 := List.map_append ..
theorem length_fracs (d : Int) (l : List (List Int)) : (fracs d l).length = l.length := List.length_map ..

set_option maxRecDepth 100000 in
set_option maxHeartbeats 8000000 in
theorem r11Stack_any (K KL : Nat) (hK : 2 * K + KL + 2 ≤ 549755813888) (w : World) (b : Bool) (a a2 : Option Addr) (n c n2 c2 : Nat) (d : Int) (zss : List (List Int)) (h : MatS K w b a n c a2 n2 c2 d zss) (hd0 : d ≠ 0)
    (b' : Bool) (a' a2' : Option Addr) (n' c' n2' c2' : Nat) (d' : Int) (zss' : List (List Int)) (h' : MatS K w b' a' n' c' a2' n2' c2' d' zss') (hd0' : d' ≠ 0)
    (m : Nat) (hrow : Hid (∀ zs ∈ zss, zs.length = m)) (hrow' : Hid (∀ zs ∈ zss', zs.length = m)) (hn2 : n2 ≤ 1073741824) (hn2' : n2' ≤ 1073741824) (hm : m ≤ 1099511627776) (qss : List (List Rat)) (hq : Hid (fracs d zss ++ fracs d' zss' = qss)) (hN : qss.flatten.length ≤ 1099511627776) (hL : nl (comDen qss.flatten) ≤ KL) (D : Nat) (hD : Hid (comDen qss.flatten = D)) :
    Calls Try.prog 21 #[.agg #[.bool b, .slice a n c, .slice a2 n2 c2], .agg #[.bool b', .slice a' n' c', .slice a2' n2' c2']] w (RFrom w D (qss.map fun qs => qs.map (comNum D))) := by
  go_enter Try.func21, Try.ntmps21
  go_wp2_with fail
  have p0 := Blk.new w 30 #[.bool b, .slice a n c, .slice a2 n2 c2]
  have p1 := Blk.new (w.alloc (Obj.cells #[.bool b, .slice a n c, .slice a2 n2 c2] 30)) 30 #[.bool b', .slice a' n' c', .slice a2' n2' c2']
  replace p0 := p0.ext ((Below.refl _ _).alloc (Nat.le_refl _) (Obj.cells #[.bool b', .slice a' n' c', .slice a2' n2' c2'] 30))
  have r := Blk.new ((w.alloc (Obj.cells #[.bool b, .slice a n c, .slice a2 n2 c2] 30)).alloc (Obj.cells #[.bool b', .slice a' n' c', .slice a2' n2' c2'] 30)) 30 #[.bool false, .slice none 0 0, .slice none 0 0]
  replace p0 := p0.ext ((Below.refl _ _).alloc (Nat.le_refl _) (Obj.cells #[.bool false, .slice none 0 0, .slice none 0 0] 30))
  replace p1 := p1.ext ((Below.refl _ _).alloc (Nat.le_refl _) (Obj.cells #[.bool false, .slice none 0 0, .slice none 0 0] 30))
  have hEW : Ext w (((w.alloc (Obj.cells #[.bool b, .slice a n c, .slice a2 n2 c2] 30)).alloc (Obj.cells #[.bool b', .slice a' n' c', .slice a2' n2' c2'] 30)).alloc (Obj.cells #[.bool false, .slice none 0 0, .slice none 0 0] 30)) := ((((Below.refl _ w).alloc (by simp) _).alloc (by simp) _).alloc (by simp; omega) _)
  generalize hgW : ((w.alloc (Obj.cells #[.bool b, .slice a n c, .slice a2 n2 c2] 30)).alloc (Obj.cells #[.bool b', .slice a' n' c', .slice a2' n2' c2'] 30)).alloc (Obj.cells #[.bool false, .slice none 0 0, .slice none 0 0] 30) = W at *
  clear hgW
  simp only [World.size_alloc] at p1 r
  have p0_ne_p1 : ¬ w.heap.size = w.heap.size + 1 := by omega
  have p0_ne_r : ¬ w.heap.size = w.heap.size + 1 + 1 := by omega
  have p1_ne_p0 : ¬ w.heap.size + 1 = w.heap.size := by omega
  have p1_ne_r : ¬ w.heap.size + 1 = w.heap.size + 1 + 1 := by omega
  have r_ne_p0 : ¬ w.heap.size + 1 + 1 = w.heap.size := by omega
  have r_ne_p1 : ¬ w.heap.size + 1 + 1 = w.heap.size + 1 := by omega
  replace p0_0 := p0.cell (i := 0) rfl
  replace p0_1 := p0.cell (i := 1) rfl
  replace p0_2 := p0.cell (i := 2) rfl
  replace p0_f0 := p0.free 0
  replace p0_f1 := p0.free 1
  replace p0_f2 := p0.free 2
  replace p0_lt := p0.lt
  replace p1_0 := p1.cell (i := 0) rfl
  replace p1_1 := p1.cell (i := 1) rfl
  replace p1_2 := p1.cell (i := 2) rfl
  replace p1_f0 := p1.free 0
  replace p1_f1 := p1.free 1
  replace p1_f2 := p1.free 2
  replace p1_lt := p1.lt
  replace r_0 := r.cell (i := 0) rfl
  replace r_1 := r.cell (i := 1) rfl
  replace r_2 := r.cell (i := 2) rfl
  replace r_f0 := r.free 0
  replace r_f1 := r.free 1
  replace r_f2 := r.free 2
  replace r_lt := r.lt
  have hd : Ext W W.drew := (Below.refl _ _).drew
  have p0 := p0.ext hd; have p0_0 := p0.cell (i := 0) rfl; have p0_1 := p0.cell (i := 1) rfl; have p0_2 := p0.cell (i := 2) rfl; have p0_f0 := p0.free 0; have p0_f1 := p0.free 1; have p0_f2 := p0.free 2; have p0_lt := p0.lt; have p1 := p1.ext hd; have p1_0 := p1.cell (i := 0) rfl; have p1_1 := p1.cell (i := 1) rfl; have p1_2 := p1.cell (i := 2) rfl; have p1_f0 := p1.free 0; have p1_f1 := p1.free 1; have p1_f2 := p1.free 2; have p1_lt := p1.lt; have r := r.ext hd; have r_0 := r.cell (i := 0) rfl; have r_1 := r.cell (i := 1) rfl; have r_2 := r.cell (i := 2) rfl; have r_f0 := r.free 0; have r_f1 := r.free 1; have r_f2 := r.free 2; have r_lt := r.lt
  have hE0 := Ext.trans hEW hd
  have HA := Lib.hid (h.ext hE0)
  have HB := Lib.hid (h'.ext hE0)
  have hszW : w.heap.size + 1 + 1 < W.drew.heap.size := r_lt
  clear h h' hEW
  refine wp_region_noPanic ?_
  refine wp_region_held_drew (S := (fun w' => w'.cell? ⟨w.heap.size, 0, none⟩ = some (.bool b) ∧ w'.cell? ⟨w.heap.size, 1, none⟩ = some (.slice a n c) ∧ w'.cell? ⟨w.heap.size, 2, none⟩ = some (.slice a2 n2 c2) ∧ w'.cell? ⟨w.heap.size + 1, 0, none⟩ = some (.bool b') ∧ w'.cell? ⟨w.heap.size + 1, 1, none⟩ = some (.slice a' n' c') ∧ w'.cell? ⟨w.heap.size + 1, 2, none⟩ = some (.slice a2' n2' c2'))) (by kernel_rfl) ⟨p0_0, p0_1, p0_2, p1_0, p1_1, p1_2⟩ (fun hHeld => ?_)
  refine takeD 0 5 (v := ?_) rfl rfl (by kernel_rfl) (by kernel_rfl) (by kernel_rfl) (fun _ _ _ h => h) (Or.inl ⟨by kernel_rfl, ?hy⟩) hHeld ?_
  case hy => (intro w hSw; (try dsimp only at hSw); go_simp; try with_reducible rfl)
  try simp only [List.setIfInBounds_toArray, List.set_cons_zero, List.set_cons_succ]
  refine takeD 2 7 (v := ?_) rfl rfl (by kernel_rfl) (by kernel_rfl) (by kernel_rfl) (fun _ _ _ h => h) (Or.inl ⟨by kernel_rfl, ?hy⟩) hHeld ?_
  case hy => (intro w hSw; (try dsimp only at hSw); go_simp; try with_reducible rfl)
  try simp only [List.setIfInBounds_toArray, List.set_cons_zero, List.set_cons_succ]
  refine stepD 1 rfl (by kernel_rfl) (fun Kc hKc => ?_)
  refine Eq.mpr (if_pos (by kernel_rfl)) ?_
  go_simp
  refine (r11Rows_any K (by omega) W.drew b a a2 n c n2 c2 d zss HA.out hd0 m hrow (by omega) hm).mono ?_; rintro e w1 ⟨a5, c5, L, css, B, rfl, hM, hL1, hE1, hB, hBs, hG⟩; replace p0 := p0.ext hE1; replace p0_0 := p0.cell (i := 0) rfl; replace p0_1 := p0.cell (i := 1) rfl; replace p0_2 := p0.cell (i := 2) rfl; replace p0_f0 := p0.free 0; replace p0_f1 := p0.free 1; replace p0_f2 := p0.free 2; replace p0_lt := p0.lt; replace p1 := p1.ext hE1; replace p1_0 := p1.cell (i := 0) rfl; replace p1_1 := p1.cell (i := 1) rfl; replace p1_2 := p1.cell (i := 2) rfl; replace p1_f0 := p1.free 0; replace p1_f1 := p1.free 1; replace p1_f2 := p1.free 2; replace p1_lt := p1.lt; replace r := r.ext hE1; replace r_0 := r.cell (i := 0) rfl; replace r_1 := r.cell (i := 1) rfl; replace r_2 := r.cell (i := 2) rfl; replace r_f0 := r.free 0; replace r_f1 := r.free 1; replace r_f2 := r.free 2; replace r_lt := r.lt
  go_wp2_with fail
  refine hKc.out _ _ ⟨p0_0, p0_1, p0_2, p1_0, p1_1, p1_2⟩ (fun hHeld => ?_)
  clear hKc Kc
  try simp only [Act.put, List.setIfInBounds_toArray, List.set_cons_zero, List.set_cons_succ]
  have HGA := Lib.hid hG
  have HLA := Lib.hid hL1
  have HEA := Lib.hid (Ext.trans hE0 hE1)
  have HB1 := Lib.hid (HB.out.ext hE1)
  have hszB := Nat.le_trans (Nat.le_of_lt hszW) hB
  clear hG hL1 hE0 hE1 hM
  refine stepD 3 rfl (by kernel_rfl) (fun Kc hKc => ?_)
  refine Eq.mpr (if_pos (by kernel_rfl)) ?_
  go_simp
  refine (r11Rows_any K (by omega) w1 b' a' a2' n' c' n2' c2' d' zss' HB1.out hd0' m hrow' (by omega) hm).mono ?_; rintro e w2 ⟨a6, c6, L2, css2, B2, rfl, hM2, hL2, hE1, hB2, hBs2, hG2⟩; replace p0 := p0.ext hE1; replace p0_0 := p0.cell (i := 0) rfl; replace p0_1 := p0.cell (i := 1) rfl; replace p0_2 := p0.cell (i := 2) rfl; replace p0_f0 := p0.free 0; replace p0_f1 := p0.free 1; replace p0_f2 := p0.free 2; replace p0_lt := p0.lt; replace p1 := p1.ext hE1; replace p1_0 := p1.cell (i := 0) rfl; replace p1_1 := p1.cell (i := 1) rfl; replace p1_2 := p1.cell (i := 2) rfl; replace p1_f0 := p1.free 0; replace p1_f1 := p1.free 1; replace p1_f2 := p1.free 2; replace p1_lt := p1.lt; replace r := r.ext hE1; replace r_0 := r.cell (i := 0) rfl; replace r_1 := r.cell (i := 1) rfl; replace r_2 := r.cell (i := 2) rfl; replace r_f0 := r.free 0; replace r_f1 := r.free 1; replace r_f2 := r.free 2; replace r_lt := r.lt
  go_wp2_with fail
  refine hKc.out _ _ ⟨p0_0, p0_1, p0_2, p1_0, p1_1, p1_2⟩ (fun hHeld => ?_)
  clear hKc Kc
  try simp only [Act.put, List.setIfInBounds_toArray, List.set_cons_zero, List.set_cons_succ]
  obtain ⟨css3, hl3, hok3, hsz3, hsrc3, hnone3⟩ := hM2.sl.cells
  have hlt := HGA.out.own.lt
  have hGk := HGA.out.keep hE1.size (fun b _ h2 => hE1.block b h2)
  have hLl : L2.length = n2' := hM2.sl.len
  have hone : ∀ u ∈ css3.flatten, u.oneCell' = true := by
    intro u hu
    obtain ⟨cs, hcs, hu⟩ := List.mem_flatten.1 hu
    obtain ⟨k, hk, rfl⟩ := List.getElem_of_mem hcs
    obtain ⟨e, _⟩ := hok3 k hk (by omega)
    rw [e] at hu
    simp at hu
    subst hu; rfl
  have hfl : css3.flatten.length = n2' * 1 := by
    rw [List.length_flatten, show css3.map List.length = List.replicate css3.length 1 from ?_, List.sum_replicate_nat, hl3, hLl]
    refine List.ext_getElem (by simp) fun k h1 h2 => ?_
    rw [List.getElem_map, List.getElem_replicate]
    exact hsz3 _ (List.getElem_mem _)
  obtain ⟨i0, hi0, hz0, hz1, hz2⟩ := info_parts info_rats
  have HGK := Lib.hid hGk
  have HEB := Lib.hid (Ext.trans HEA.out hE1)
  have HOK := Lib.hid hok3
  have HSRC := Lib.hid hsrc3
  have HONE := Lib.hid hone
  have hsz12 := hE1.size
  have HL3 := Lib.hid hl3
  have HLL := Lib.hid hLl
  have HLB := Lib.hid hL2
  have HNO := Lib.hid hnone3
  have HFL := Lib.hid hfl
  clear hGk hok3 hsrc3 hone hM2 hG2 hsz3 hE1 hl3 hLl hL2 hnone3 hfl
  refine stepD 4 rfl (by kernel_rfl) (fun Kc hKc => ?_)
  refine step_append_src rfl (.tmp 6) (.tmp 8) 54 rfl B 55 i0 _ 1 24 under_ratss hi0 hz0 hz1 hz2 rfl (by decide) _ n2 _ rfl HGK.out.own a6 n2' c6 css3.flatten rfl HNO.out HFL.out HSRC.out HONE.out (by unfold maxLen; omega) (by omega) (Nat.le_trans hBs hsz12) ?_
  intro v' w3 hown hgrow hat
  have hADD := HGK.out.addMany hown hgrow hat (by rw [HL3.out, HLL.out]) HLL.out (fun k hk hx => ⟨w2, w1.heap.size, hBs, HOK.out k hk hx, Nat.le_refl _, fun b h1 _ => ⟨rfl, fun e => by have := (hlt _ e).2; omega⟩⟩)
  replace p0 := Blk.grown p0 hgrow (fun e => by have := (hlt _ e.symm).1; omega)
  replace p1 := Blk.grown p1 hgrow (fun e => by have := (hlt _ e.symm).1; omega)
  replace r := Blk.grown r hgrow (fun e => by have := (hlt _ e.symm).1; omega)
  have hE3 : Ext w w3 := HEB.out.grown hgrow HEB.out.size (fun k e => by have := (hlt _ e).1; omega)
  replace p0_0 := p0.cell (i := 0) rfl
  replace p0_1 := p0.cell (i := 1) rfl
  replace p0_2 := p0.cell (i := 2) rfl
  replace p0_f0 := p0.free 0
  replace p0_f1 := p0.free 1
  replace p0_f2 := p0.free 2
  replace p0_lt := p0.lt
  replace p1_0 := p1.cell (i := 0) rfl
  replace p1_1 := p1.cell (i := 1) rfl
  replace p1_2 := p1.cell (i := 2) rfl
  replace p1_f0 := p1.free 0
  replace p1_f1 := p1.free 1
  replace p1_f2 := p1.free 2
  replace p1_lt := p1.lt
  replace r_0 := r.cell (i := 0) rfl
  replace r_1 := r.cell (i := 1) rfl
  replace r_2 := r.cell (i := 2) rfl
  replace r_f0 := r.free 0
  replace r_f1 := r.free 1
  replace r_f2 := r.free 2
  replace r_lt := r.lt
  obtain ⟨aa, ca, rfl, hsl⟩ := hADD.sl
  have hsl2 : Sl (rRatK K).slice 0 w3 aa (n2 + n2') ca qss := by
    have := hsl.mapw (s := (rRatK K).slice) Prod.snd (Nat.zero_le _) rfl fun _ _ ⟨e, hs⟩ => ⟨_, _, _, e, hs.mono (Nat.zero_le _) (Kept.refl _ _)⟩
    rwa [List.map_append, HLA.out, HLB.out, hq.out] at this
  have HRW : Hid (∀ qs ∈ qss, qs.length ≤ 1099511627776) := Lib.hid (fun qs hm2 => by
    rw [← hq.out] at hm2
    rcases List.mem_append.1 hm2 with hm2 | hm2
    · obtain ⟨zs, hz, rfl⟩ := List.mem_map.1 hm2
      rw [List.length_map, hrow.out zs hz]; exact hm
    · obtain ⟨zs, hz, rfl⟩ := List.mem_map.1 hm2
      rw [List.length_map, hrow'.out zs hz]; exact hm)
  have HS := Lib.hid hsl2
  have hszg := hgrow.size
  clear hADD hsl hsl2 hown hgrow hat hlt
  refine hKc.out _ _ ⟨p0_0, p0_1, p0_2, p1_0, p1_1, p1_2⟩ (fun hHeld => ?_)
  clear hKc Kc
  try simp only [Act.put, List.setIfInBounds_toArray, List.set_cons_zero, List.set_cons_succ]
  refine stepD 5 rfl (by kernel_rfl) (fun Kc hKc => ?_)
  refine Eq.mpr (if_pos (by kernel_rfl)) ?_
  go_simp
  refine (from_any K KL hK w3 aa (n2 + n2') ca qss HS.out (by omega) hN hL D hD HRW).mono ?_; rintro e w4 ⟨a7, n7, c7, a8, n8, c8, rfl, h7, h8, hE1⟩; replace p0 := p0.ext hE1; replace p0_0 := p0.cell (i := 0) rfl; replace p0_1 := p0.cell (i := 1) rfl; replace p0_2 := p0.cell (i := 2) rfl; replace p0_f0 := p0.free 0; replace p0_f1 := p0.free 1; replace p0_f2 := p0.free 2; replace p0_lt := p0.lt; replace p1 := p1.ext hE1; replace p1_0 := p1.cell (i := 0) rfl; replace p1_1 := p1.cell (i := 1) rfl; replace p1_2 := p1.cell (i := 2) rfl; replace p1_f0 := p1.free 0; replace p1_f1 := p1.free 1; replace p1_f2 := p1.free 2; replace p1_lt := p1.lt; replace r := r.ext hE1; replace r_0 := r.cell (i := 0) rfl; replace r_1 := r.cell (i := 1) rfl; replace r_2 := r.cell (i := 2) rfl; replace r_f0 := r.free 0; replace r_f1 := r.free 1; replace r_f2 := r.free 2; replace r_lt := r.lt
  go_wp2_with fail
  refine hKc.out _ _ ⟨p0_0, p0_1, p0_2, p1_0, p1_1, p1_2⟩ (fun hHeld => ?_)
  clear hKc Kc
  try simp only [Act.put, List.setIfInBounds_toArray, List.set_cons_zero, List.set_cons_succ]
  refine stepD 6 rfl (by kernel_rfl) (fun Kc hKc => ?_)
  refine Eq.mpr (if_pos (by kernel_rfl)) ?_
  go_simp
  replace r := r.set 0 (.bool false)
  replace p0 := p0.set_ne 0 (.bool false) (show w.heap.size ≠ w.heap.size + 1 + 1 by omega)
  replace p1 := p1.set_ne 0 (.bool false) (show w.heap.size + 1 ≠ w.heap.size + 1 + 1 by omega)
  replace r := r.set 1 (.slice a7 n7 c7)
  replace p0 := p0.set_ne 1 (.slice a7 n7 c7) (show w.heap.size ≠ w.heap.size + 1 + 1 by omega)
  replace p1 := p1.set_ne 1 (.slice a7 n7 c7) (show w.heap.size + 1 ≠ w.heap.size + 1 + 1 by omega)
  replace r := r.set 2 (.slice a8 n8 c8)
  replace p0 := p0.set_ne 2 (.slice a8 n8 c8) (show w.heap.size ≠ w.heap.size + 1 + 1 by omega)
  replace p1 := p1.set_ne 2 (.slice a8 n8 c8) (show w.heap.size + 1 ≠ w.heap.size + 1 + 1 by omega)
  have hKW9 : ∀ bB_ : Nat, w.heap.size + 1 + 1 < bB_ → Kept bB_ w4 ((((w4).setCell ⟨w.heap.size + 1 + 1, 0, none⟩ (.bool false)).setCell ⟨w.heap.size + 1 + 1, 1, none⟩ (.slice a7 n7 c7)).setCell ⟨w.heap.size + 1 + 1, 2, none⟩ (.slice a8 n8 c8)) := fun bB_ h0 => (Kept.trans (kept_set _ _ _ h0) (Kept.trans (kept_set _ _ _ h0) (kept_set _ _ _ h0)))
  have hzW9 : w4.heap.size ≤ ((((w4).setCell ⟨w.heap.size + 1 + 1, 0, none⟩ (.bool false)).setCell ⟨w.heap.size + 1 + 1, 1, none⟩ (.slice a7 n7 c7)).setCell ⟨w.heap.size + 1 + 1, 2, none⟩ (.slice a8 n8 c8)).heap.size := by simp only [World.setCell, Array.size_modify]; exact Nat.le_refl _
  have hSW9 : ∀ (nB_ : Nat) (uB_ : World), nB_ ≤ w.heap.size + 1 + 1 → Below nB_ uB_ w4 → Below nB_ uB_ ((((w4).setCell ⟨w.heap.size + 1 + 1, 0, none⟩ (.bool false)).setCell ⟨w.heap.size + 1 + 1, 1, none⟩ (.slice a7 n7 c7)).setCell ⟨w.heap.size + 1 + 1, 2, none⟩ (.slice a8 n8 c8)) := fun nB_ uB_ h0 hb => (Below.setCell (Below.setCell (Below.setCell hb (p := ⟨w.heap.size + 1 + 1, 0, none⟩) h0 (.bool false)) (p := ⟨w.heap.size + 1 + 1, 1, none⟩) h0 (.slice a7 n7 c7)) (p := ⟨w.heap.size + 1 + 1, 2, none⟩) h0 (.slice a8 n8 c8))
  replace r : Blk ((((w4).setCell ⟨w.heap.size + 1 + 1, 0, none⟩ (.bool false)).setCell ⟨w.heap.size + 1 + 1, 1, none⟩ (.slice a7 n7 c7)).setCell ⟨w.heap.size + 1 + 1, 2, none⟩ (.slice a8 n8 c8)) (w.heap.size + 1 + 1) 30 #[.bool false, .slice a7 n7 c7, .slice a8 n8 c8] := r
  generalize hgW9 : (((w4).setCell ⟨w.heap.size + 1 + 1, 0, none⟩ (.bool false)).setCell ⟨w.heap.size + 1 + 1, 1, none⟩ (.slice a7 n7 c7)).setCell ⟨w.heap.size + 1 + 1, 2, none⟩ (.slice a8 n8 c8) = W9 at *
  clear hgW9
  replace r_0 := r.cell (i := 0) rfl
  replace r_1 := r.cell (i := 1) rfl
  replace r_2 := r.cell (i := 2) rfl
  replace r_f0 := r.free 0
  replace r_f1 := r.free 1
  replace r_f2 := r.free 2
  replace r_lt := r.lt
  replace p0_0 := p0.cell (i := 0) rfl
  replace p0_1 := p0.cell (i := 1) rfl
  replace p0_2 := p0.cell (i := 2) rfl
  replace p0_f0 := p0.free 0
  replace p0_f1 := p0.free 1
  replace p0_f2 := p0.free 2
  replace p0_lt := p0.lt
  replace p1_0 := p1.cell (i := 0) rfl
  replace p1_1 := p1.cell (i := 1) rfl
  replace p1_2 := p1.cell (i := 2) rfl
  replace p1_f0 := p1.free 0
  replace p1_f1 := p1.free 1
  replace p1_f2 := p1.free 2
  replace p1_lt := p1.lt
  have hF : RFrom w D (qss.map fun qs => qs.map (comNum D)) (.returned (.agg #[.bool false, .slice a7 n7 c7, .slice a8 n8 c8])) W9 := ⟨a7, n7, c7, a8, n8, c8, rfl, h7.mono (by omega) (hKW9 _ (by omega)), h8.mono (by omega) (hKW9 _ (by omega)), hSW9 _ _ (by omega) (Ext.trans hE3 hE1)⟩
  have HF := Lib.hid hF
  refine hKc.out _ _ ⟨p0_0, p0_1, p0_2, p1_0, p1_1, p1_2⟩ (fun hHeld => ?_)
  clear hKc Kc hF h7 h8 hE1 hE3
  try simp only [Act.put, List.setIfInBounds_toArray, List.set_cons_zero, List.set_cons_succ]
  refine wpAnyH_done (by kernel_rfl) ?_ _
  refine NoPanic.normal ?_
  go_wp2_with fail
  exact bodyPost_ret (v := .agg #[.bool false, .slice a7 n7 c7, .slice a8 n8 c8]) (by simp [results, Try.results21, go_sem, r_0, r_1, r_2]) rfl HF.out
end Go.Proofs.Ytbhenelehhiakaa
/-
  simileref11: Cut.
-/
namespace Go.Proofs.Ytbhenelehhiakaa
open Go.RowKit

/-- rows that lie in an older world -/
def rRowW (w0 : World) (K : Nat) : Rd (List Rat) where
  size := 1
  ok _ _ cs x := ∃ a n c, cs = [.slice a n c] ∧ Sl (rRatK K) 0 w0 a n c x
  len h := by obtain ⟨a, n, c, h, _⟩ := h; rw [h]; rfl
  mono h _ _ := h
theorem rRowW_free {w0 : World} {K : Nat} : ∀ B w B' w' cs x, (rRowW w0 K).ok B w cs x → (rRowW w0 K).ok B' w' cs x := fun _ _ _ _ _ _ h => h

/-- a part of a list, its room kept -/
theorem Sl.part {α : Type} {r : Rd α} {B : Nat} {w : World} {a : Option Addr} {n c : Nat} {xs : List α} (h : Sl r B w a n c xs) {lo hi2 : Nat} (h1 : lo ≤ hi2) (h2 : hi2 ≤ n) : Sl r B w (if c = lo then a else a.map (·.add (lo * r.size))) (hi2 - lo) (c - lo) ((xs.drop lo).take (hi2 - lo)) := by
  have hc := h.cap
  have hm := h.most
  by_cases h0 : c = lo
  · rw [if_pos h0]
    have e : hi2 - lo = 0 := by omega
    rw [e, List.take_zero]
    exact ⟨rfl, Nat.zero_le _, by omega, fun _ => by omega, fun i hi => absurd hi (by simp)⟩
  · rw [if_neg h0]
    cases a with
    | none =>
      have hc0 := h.nil rfl
      have e : hi2 - lo = 0 := by omega
      rw [e, List.take_zero]
      exact ⟨rfl, Nat.zero_le _, by omega, fun _ => by omega, fun i hi => absurd hi (by simp)⟩
    | some ad =>
      by_cases hl0 : hi2 - lo = 0
      · rw [hl0, List.take_zero]
        exact ⟨rfl, Nat.zero_le _, by omega, fun e => (by cases e), fun i hi => absurd hi (by simp)⟩
      · obtain ⟨b, o, cs, hab, _⟩ := h.at_ 0 (by rw [h.len]; omega)
        cases hab
        have hs := h.sub (k := lo) (l := hi2 - lo) (by omega)
        refine ⟨hs.len, by omega, by omega, fun e => (by cases e), fun i hi => ?_⟩
        obtain ⟨b', o', cs, e, hr, hcs⟩ := hs.at_ i hi
        cases e
        refine ⟨b, o + lo * r.size, cs, ?_, hr, hcs⟩
        show (some ((⟨b, o, none⟩ : Addr).add (lo * r.size))) = _
        by_cases hz : lo * r.size = 0
        · rw [hz]; simp [Addr.add]
        · simp [Addr.add, hz]
theorem slice_run {t e : TypeId} (hu : Try.prog.underlying t = some (.slice e)) {i : TypeInfo} (hi : Try.prog.info? e = some i) (a : Option Addr) (n c lo hi2 : Nat) (w : World) (h1 : lo ≤ hi2) (h2 : hi2 ≤ c) :
    (Instr.sliceAt t (.slice a n c) (some (.int .i64 (lo : Int))) (some (.int .i64 (hi2 : Int))) none).run Try.prog w = .ok (.slice (if c = lo then a else a.map (·.add (lo * i.size))) (hi2 - lo) (c - lo)) w := by
  have he : Try.prog.elem t = e := by simp [Program.elem, hu]
  rw [run_sliceAt_slice _ t _ _ _ _ (by rw [he]; exact hu), run_slice_lh _ t a n c (by rw [he]; exact hu) .i64 .i64 (lo : Int) (hi2 : Int) (by omega) (by omega) (by omega), he]
  have hsz : (sizeOf e).run Try.prog w = .ok i.size w := by simp [go_sem, sizeOf, typeInfo, hi]
  rw [hsz]
  simp [Result.andThen, sliced]

def cutQ (r r2 k k2 : Nat) (qss : List (List Rat)) : List (List Rat) := ((qss.drop r).take (r2 - r)).map fun qs => (qs.drop k).take (k2 - k)

set_option maxRecDepth 100000 in
set_option maxHeartbeats 8000000 in
theorem r11Cut_any (K KL : Nat) (hK : 2 * K + KL + 2 ≤ 549755813888) (w : World) (b : Bool) (a a2 : Option Addr) (n c n2 c2 : Nat) (d : Int) (zss : List (List Int)) (h : MatS K w b a n c a2 n2 c2 d zss) (hd0 : d ≠ 0) (m : Nat) (hrow : Hid (∀ zs ∈ zss, zs.length = m)) (hn2 : n2 ≤ 1099511627776) (hm : m ≤ 1099511627776)
    (r r2 k k2 : Nat) (hr : r ≤ r2) (hr2 : r2 ≤ n2) (hk : k ≤ k2) (hk2 : k2 ≤ m) (qss : List (List Rat)) (hq : Hid (cutQ r r2 k k2 (fracs d zss) = qss)) (hN : qss.flatten.length ≤ 1099511627776) (hL : nl (comDen qss.flatten) ≤ KL) (D : Nat) (hD : Hid (comDen qss.flatten = D)) :
    Calls Try.prog 23 #[.agg #[.bool b, .slice a n c, .slice a2 n2 c2], .int .i64 (r : Int), .int .i64 (r2 : Int), .int .i64 (k : Int), .int .i64 (k2 : Int)] w (RFrom w D (qss.map fun qs => qs.map (comNum D))) := by
  go_enter Try.func23, Try.ntmps23
  go_wp2_with fail
  have p0 := Blk.new w 30 #[.bool b, .slice a n c, .slice a2 n2 c2]
  have r0 := Blk.new (w.alloc (Obj.cells #[.bool b, .slice a n c, .slice a2 n2 c2] 30)) 30 #[.bool false, .slice none 0 0, .slice none 0 0]
  replace p0 := p0.ext ((Below.refl _ _).alloc (Nat.le_refl _) (Obj.cells #[.bool false, .slice none 0 0, .slice none 0 0] 30))
  have hEW : Ext w ((w.alloc (Obj.cells #[.bool b, .slice a n c, .slice a2 n2 c2] 30)).alloc (Obj.cells #[.bool false, .slice none 0 0, .slice none 0 0] 30)) := (((Below.refl _ w).alloc (by simp) _).alloc (by simp) _)
  generalize hgW : (w.alloc (Obj.cells #[.bool b, .slice a n c, .slice a2 n2 c2] 30)).alloc (Obj.cells #[.bool false, .slice none 0 0, .slice none 0 0] 30) = W at *
  clear hgW
  simp only [World.size_alloc] at r0
  have p0_ne_r0 : ¬ w.heap.size = w.heap.size + 1 := by omega
  have r0_ne_p0 : ¬ w.heap.size + 1 = w.heap.size := by omega
  replace p0_0 := p0.cell (i := 0) rfl
  replace p0_1 := p0.cell (i := 1) rfl
  replace p0_2 := p0.cell (i := 2) rfl
  replace p0_f0 := p0.free 0
  replace p0_f1 := p0.free 1
  replace p0_f2 := p0.free 2
  replace p0_lt := p0.lt
  replace r0_0 := r0.cell (i := 0) rfl
  replace r0_1 := r0.cell (i := 1) rfl
  replace r0_2 := r0.cell (i := 2) rfl
  replace r0_f0 := r0.free 0
  replace r0_f1 := r0.free 1
  replace r0_f2 := r0.free 2
  replace r0_lt := r0.lt
  refine (r11Rows_any K (by omega) W b a a2 n c n2 c2 d zss (h.ext hEW) hd0 m hrow hn2 hm).mono ?_
  rintro e w1 ⟨a5, c5, L, css, B, rfl, hM, hL1, hE1, hB, hBs, hG⟩
  replace p0 := p0.ext hE1; replace p0_0 := p0.cell (i := 0) rfl; replace p0_1 := p0.cell (i := 1) rfl; replace p0_2 := p0.cell (i := 2) rfl; replace p0_f0 := p0.free 0; replace p0_f1 := p0.free 1; replace p0_f2 := p0.free 2; replace p0_lt := p0.lt; replace r0 := r0.ext hE1; replace r0_0 := r0.cell (i := 0) rfl; replace r0_1 := r0.cell (i := 1) rfl; replace r0_2 := r0.cell (i := 2) rfl; replace r0_f0 := r0.free 0; replace r0_f1 := r0.free 1; replace r0_f2 := r0.free 2; replace r0_lt := r0.lt
  have hrd : Sl (rRatK K).slice 0 w1 a5 n2 c5 (fracs d zss) := by have := Sl.zero hM.read; rwa [hL1] at this
  have HRD := Lib.hid hrd
  have HE0 := Lib.hid (Ext.trans hEW hE1)
  have HR0 := Lib.hid r0
  have HP0 := Lib.hid p0
  have hszW : w.heap.size + 1 < w1.heap.size := r0_lt
  have hcap := hrd.cap
  have hmost := hrd.most
  have hnil := hrd.nil
  have hlen : (fracs d zss).length = n2 := hrd.len
  have hqlen : Hid (∀ qs ∈ fracs d zss, qs.length = m) := Lib.hid (fun qs hm2 => by obtain ⟨zs, hz, rfl⟩ := List.mem_map.1 hm2; rw [List.length_map, hrow.out zs hz])
  generalize fracs d zss = fss at *
  clear h hM hL1 hG hE1 hEW hrd hd0 hrow L css
  obtain ⟨i0, hi0, hz0, hz1, hz2⟩ := info_parts info_rats
  have hsl := slice_run under_ratss hi0 a5 n2 c5 r r2 w1 hr (by omega)
  rw [show i0.size = (rRatK K).slice.size from hz1] at hsl
  have hpart := HRD.out.part hr hr2
  generalize (if c5 = r then a5 else a5.map (·.add (r * (rRatK K).slice.size))) = aS at hsl hpart
  generalize c5 - r = cS at hsl hpart
  obtain ⟨N, hN2⟩ : ∃ N, r2 - r = N := ⟨_, rfl⟩
  rw [hN2] at hsl hpart
  have HPT := Lib.hid hpart
  have HN2 := Lib.hid hN2
  have hcapS := hpart.cap
  have hmostS := hpart.most
  clear hN2 hpart hz0 hz1 hz2 hi0 i0
  have hpl : ((fss.drop r).take N).length = N := HPT.out.len
  have hqN : qss.length = N := by rw [← hq.out]; unfold cutQ; rw [List.length_map, HN2.out]; exact hpl
  have HQN := Lib.hid hqN
  have HQI : Hid (∀ (i : Nat) (x : List Rat), ((fss.drop r).take N)[i]? = some x → qss[i]? = some ((x.drop k).take (k2 - k))) := Lib.hid (fun i x hx => by rw [← hq.out]; unfold cutQ; rw [HN2.out, List.getElem?_map, hx]; rfl)
  have HMEM : Hid (∀ x ∈ (fss.drop r).take N, x.length = m) := Lib.hid (fun x hx => hqlen.out x (List.mem_of_mem_drop (List.mem_of_mem_take hx)))
  have hNn : N ≤ n2 := by have := HN2.out; omega
  clear hpl hqN hlen
  obtain ⟨lT, hlT⟩ : ∃ l, k2 - k = l := ⟨_, rfl⟩
  rw [hlT] at HQI
  have HLT := Lib.hid hlT
  clear hlT
  go_wp2_with fail
  clear hsl
  go_loopg [11, 20] N (fun q vo vi wr => ∃ i : Nat, i ≤ N ∧ q = N - i ∧ vi = .int .i64 (i : Int) ∧ Hid (∃ css, Grp (rRowW w1 K) w1.heap.size 55 wr vo i (qss.take i) css) ∧ Hid (Ext w1 wr))
  case atStart => exact ⟨0, Nat.zero_le _, by omega, rfl, Lib.hid ⟨[], Grp.nil _ _ _ _⟩, Lib.hid (Ext.refl _)⟩
  case round =>
    obtain ⟨i, hi, hq1, rfl, HGi, HE⟩ := hrel
    by_cases hin : i < N
    · obtain ⟨b6, o6, a1, n1, c1, x, rfl, hb6, hx, hc8, hX⟩ := Sl.getRow HPT.out hin
      have hc9 := (HE.out.cell (p := ⟨b6, o6 + i, none⟩) hb6).trans hc8
      have hn1 : n1 = m := by rw [← hX.len]; exact HMEM.out x (List.mem_of_getElem? hx)
      subst hn1
      have hQi := HQI.out i x hx
      have hcap1 := hX.cap
      have hmost1 := hX.most
      obtain ⟨i1, hi1, hz3, hz4, hz5⟩ := info_parts info_rat
      have hs2 := slice_run under_rats hi1 a1 n1 c1 k k2 wr hk (by omega)
      rw [show i1.size = (rRatK K).size from hz4, HLT.out] at hs2
      have hp2 := hX.part hk (show k2 ≤ n1 by omega)
      rw [HLT.out] at hp2
      generalize (if c1 = k then a1 else a1.map (·.add (k * (rRatK K).size))) = aT at hs2 hp2
      generalize c1 - k = cT at hs2 hp2
      obtain ⟨hil, hqe⟩ := List.getElem?_eq_some_iff.1 hQi
      have HTK : Hid (qss.take (i + 1) = qss.take i ++ [(x.drop k).take lT]) := Lib.hid (by rw [List.take_succ_eq_append_getElem hil, hqe])
      have HP2 := Lib.hid hp2
      obtain ⟨css, hG⟩ := HGi.out
      have hlt := hG.own.lt
      have hEB : Ext wr (wr.alloc (Obj.cells #[.slice aT lT cT] 55)) := (Below.refl _ _).alloc (Nat.le_refl _) _
      have HG11 := Lib.hid (hG.keep hEB.size (fun b _ h2 => hEB.block b h2))
      have HE11 := Lib.hid (Ext.trans HE.out hEB)
      have hnews : ∀ (j' : Nat) (u : Value), [Value.slice aT lT cT][j']? = some u → (wr.alloc (Obj.cells #[.slice aT lT cT] 55)).cell? ((⟨wr.heap.size, 0, none⟩ : Addr).add j') = some u := fun j' u hu => by
        match j', hu with
        | 0, hu => cases hu; exact (Blk.new wr 55 #[.slice aT lT cT]).cell (i := 0) rfl
        | k + 1, hu => simp at hu
      obtain ⟨i0, hi0, hz0, hz1, hz2⟩ := info_parts info_rats
      clear hX hx hc8 hQi hqe hp2 hG hEB hz3 hz4 hz5 hi1 i1
      go_wp2_with (at_builtin; refine wpList_append_own_at _ rfl _ _ 54 rfl w1.heap.size 55 i0 _ 1 24 under_ratss hi0 hz0 hz1 hz2 rfl (by decide) _ _ _ rfl HG11.out.own ⟨wr.heap.size, 0, none⟩ 1 1 [.slice aT lT cT] rfl rfl hnews (by simp [Value.oneCell']) (by unfold maxLen; omega) (by omega) (by exact HE11.out.size) ?_; intro v' w3 hown' hgrow _ hat)
      have HAD := Lib.hid (HG11.out.add hown' hgrow hat (x := (x.drop k).take lT) (Bx := (wr.alloc (Obj.cells #[.slice aT lT cT] 55)).heap.size) (show (rRowW w1 K).ok _ _ [.slice aT lT cT] _ from ⟨aT, lT, cT, rfl, HP2.out⟩) HE11.out.size (fun g e => by have := (hlt g e).2; have := (World.size_alloc wr (Obj.cells #[.slice aT lT cT] 55)); omega))
      have HEN := Lib.hid (HE11.out.grown hgrow HE11.out.size (fun k e => (hlt k e).1))
      clear hown' hgrow hat hnews
      go_roundg (N - (i + 1))
      case measure => omega
      case rel => exact ⟨i + 1, by omega, rfl, by go_num, Lib.hid ⟨css ++ [[.slice aT lT cT]], by rw [HTK.out]; exact HAD.out⟩, HEN⟩
    · obtain rfl : i = N := by omega
      obtain ⟨css, hG⟩ := HGi.out
      rw [List.take_of_length_le (by rw [HQN.out]; exact Nat.le_refl _)] at hG
      obtain ⟨aa, ca, rfl, hsl3⟩ := hG.sl
      have HS3 : Hid (Sl (rRatK K).slice 0 wr aa i ca qss) := Lib.hid (hsl3.weak (Nat.zero_le _) rfl fun _ _ ⟨a, n, c, e, hh⟩ => ⟨a, n, c, e, hh.ext (Nat.le_refl _) HE.out⟩)
      have HRW : Hid (∀ qs ∈ qss, qs.length ≤ 1099511627776) := Lib.hid (fun qs hm2 => by
        rw [← hq.out] at hm2
        obtain ⟨x, hx, rfl⟩ := List.mem_map.1 hm2
        rw [HN2.out] at hx
        have := HMEM.out x hx
        rw [List.length_take, List.length_drop]; omega)
      have r0 := HR0.out.ext HE.out
      have HEw := Lib.hid (Ext.trans HE0.out HE.out)
      clear hG hsl3
      skip
      replace r0_0 := r0.cell (i := 0) rfl
      replace r0_1 := r0.cell (i := 1) rfl
      replace r0_2 := r0.cell (i := 2) rfl
      replace r0_f0 := r0.free 0
      replace r0_f1 := r0.free 1
      replace r0_f2 := r0.free 2
      replace r0_lt := r0.lt
      go_wp2_with fail
      refine (from_any K KL hK wr aa i ca qss HS3.out (by omega) hN hL D hD HRW).mono ?_
      rintro e w2 ⟨a5, n5, c5, a6, n6, c6, rfl, h5, h6, hE5⟩
      replace r0 := r0.ext hE5; replace r0_0 := r0.cell (i := 0) rfl; replace r0_1 := r0.cell (i := 1) rfl; replace r0_2 := r0.cell (i := 2) rfl; replace r0_f0 := r0.free 0; replace r0_f1 := r0.free 1; replace r0_f2 := r0.free 2; replace r0_lt := r0.lt
      have HF := Lib.hid (RFrom.box (w := w) (r := w.heap.size + 1) (v0 := .bool false) (v1 := .slice a5 n5 c5) (v2 := .slice a6 n6 c6) (by omega) (show w.heap.size + 1 < wr.heap.size by have := HE.out.size; omega) (Ext.trans HEw.out hE5) h5 h6)
      clear h5 h6 hE5
      have r02 : Blk ((((w2).setCell ⟨w.heap.size + 1, 0, none⟩ (.bool false)).setCell ⟨w.heap.size + 1, 1, none⟩ (.slice a5 n5 c5)).setCell ⟨w.heap.size + 1, 2, none⟩ (.slice a6 n6 c6)) _ _ #[.bool false, .slice a5 n5 c5, .slice a6 n6 c6] := (((r0).set 0 (.bool false)).set 1 (.slice a5 n5 c5)).set 2 (.slice a6 n6 c6)
      have hr00 := r02.cell (i := 0) rfl
      have hr01 := r02.cell (i := 1) rfl
      have hr02 := r02.cell (i := 2) rfl
      go_wp2_with fail
      exact bodyPost_ret (v := .agg #[.bool false, .slice a5 n5 c5, .slice a6 n6 c6]) (by simp [results, Try.results23, go_sem, hr00, hr01, hr02]) rfl HF.out
end Go.Proofs.Ytbhenelehhiakaa
