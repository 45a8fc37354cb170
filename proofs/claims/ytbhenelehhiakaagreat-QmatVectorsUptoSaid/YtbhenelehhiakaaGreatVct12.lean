/-
  The references: VecNorm, CopyVec, VecAdd; the law's noVec.
-/
import Derived.Test.YtbhenelehhiakaaGreatVct11
set_option linter.unusedVariables false
set_option linter.unusedSimpArgs false
namespace Go.Proofs.YtbhenelehhiakaaGreat
open Go.RowKit
theorem comDen_frV (D : Int) (hD : D ≠ 0) (zs : List Int) (K : Nat) (h : nl D.natAbs ≤ K) : nl (comDen (frV D zs)) ≤ K := by
 have := nrmD_nl D hD [zs] K h
 rwa [show nrmD (fracs D [zs]) = comDen (frV D zs) by simp [nrmD, fracs, frV]] at this
theorem Sl.weakR {K K' B : Nat} {w : World} {a : Option Addr} {n c : Nat} {xs : List Rat} (h : Sl (rRatK K) B w a n c xs) (hK : K ≤ K') : Sl (rRatK K') B w a n c xs :=
 h.weakQ (s := rRatK K') (Nat.le_refl _) rfl fun cs q _ ⟨b, a, n, c, b2, a2, n2, c2, e, l, l2, g1, g2, g3, g4, g5, g6⟩ => ⟨b, a, n, c, b2, a2, n2, c2, e, l, l2, g1, g2, g3, g4, Nat.le_trans g5 hK, Nat.le_trans g6 hK⟩
set_option maxHeartbeats 2000000 in
theorem r11VecNorm_any (K : Nat) (hK : 4 * K + 2 ≤ 549755813888) (w : World) (b : Bool) (a a2 : Option Addr) (n c n2 c2 : Nat) (d : Int) (zs : List Int) (h : VecS K w b a n c a2 n2 c2 d zs) (hd0 : d ≠ 0) (hn2 : n2 ≤ 1099511627776) (X : List Rat) (hX : Hid (frV d zs = X)) :
  Calls Tryz.prog 55 #[.agg #[.bool b, .slice a n c, .slice a2 n2 c2]] w (RVRefN w X) := by
 have HL : Hid (nl (comDen X) ≤ K) := Lib.hid (by
  rw [← hX.out]
  obtain ⟨l, h1, h2, h3, h4⟩ := h
  exact comDen_frV d hd0 zs K (Nat.le_trans (nl_of h1 (Lib.hid h2)) h3))
 go_enter Tryz.func55, Tryz.ntmps55
 go_wp2_with fail
 have p0 := Blk.new w 32 #[.bool b, .slice a n c, .slice a2 n2 c2]
 have r0 := Blk.new (w.alloc (Obj.cells #[.bool b, .slice a n c, .slice a2 n2 c2] 32)) 32 #[.bool false, .slice none 0 0, .slice none 0 0]
 replace p0 := p0.ext ((Below.refl _ _).alloc (Nat.le_refl _) (Obj.cells #[.bool false, .slice none 0 0, .slice none 0 0] 32))
 have hEW : Ext w ((w.alloc (Obj.cells #[.bool b, .slice a n c, .slice a2 n2 c2] 32)).alloc (Obj.cells #[.bool false, .slice none 0 0, .slice none 0 0] 32)) := (((Below.refl _ w).alloc (by simp) _).alloc (by simp) _)
 generalize hgW : (w.alloc (Obj.cells #[.bool b, .slice a n c, .slice a2 n2 c2] 32)).alloc (Obj.cells #[.bool false, .slice none 0 0, .slice none 0 0] 32) = W at *
 clear hgW
 simp only [World.size_alloc] at r0
 have p0_ne_r0 : ¬ w.heap.size = w.heap.size + 1 := by omega
 have r0_ne_p0 : ¬ w.heap.size + 1 = w.heap.size := by omega
 replace p0_0 := p0.cell (i := 0) rfl
 replace p0_1 := p0.cell (i := 1) rfl
 replace p0_2 := p0.cell (i := 2) rfl
 replace r0_0 := r0.cell (i := 0) rfl
 replace r0_1 := r0.cell (i := 1) rfl
 replace r0_2 := r0.cell (i := 2) rfl
 replace r0_f0 := r0.free 0
 replace r0_f1 := r0.free 1
 replace r0_f2 := r0.free 2
 replace r0_lt := r0.lt
 have hW : w.heap.size + 1 < W.heap.size := r0_lt
 (with_reducible refine (r11Entries_any K (by omega) W b a a2 n c n2 c2 d zs (h.ext hEW) hd0 hn2).mono ?_)
 rintro e w1 ⟨g, m, rfl, h1, hg1, hg2, hE1⟩
 have hm : m = n2 := by rw [← h1.len, ← h.len]; simp [frV]
 subst hm
 rw [hX.out] at h1
 replace p0 := p0.ext hE1; replace p0_0 := p0.cell (i := 0) rfl; replace p0_1 := p0.cell (i := 1) rfl; replace p0_2 := p0.cell (i := 2) rfl; replace r0 := r0.ext hE1; replace r0_0 := r0.cell (i := 0) rfl; replace r0_1 := r0.cell (i := 1) rfl; replace r0_2 := r0.cell (i := 2) rfl; replace r0_f0 := r0.free 0; replace r0_f1 := r0.free 1; replace r0_f2 := r0.free 2; replace r0_lt := r0.lt
 have hE0 := Ext.trans hEW hE1
 have hsz1 := hE1.size
 clear h hEW hE1 p0 p0_0 p0_1 p0_2
 go_wp2_with fail
 (with_reducible refine (r11Vec_n K K (by omega) w1 (some ⟨g, 0, none⟩) m m X (h1.mono (Nat.zero_le _) (Kept.refl _ _)) HL.out hn2).mono ?_)
 rintro e w2 ⟨a5, n5, c5, a6, n6, c6, rfl, h5, h6, hE2⟩
 replace r0 := r0.ext hE2; replace r0_0 := r0.cell (i := 0) rfl; replace r0_1 := r0.cell (i := 1) rfl; replace r0_2 := r0.cell (i := 2) rfl; replace r0_f0 := r0.free 0; replace r0_f1 := r0.free 1; replace r0_f2 := r0.free 2; replace r0_lt := r0.lt
 have hE := Ext.trans hE0 hE2
 have HF : Hid (RVRefN w X (.returned (.agg #[.bool false, .slice a5 n5 c5, .slice a6 n6 c6])) (((w2.setCell ⟨w.heap.size + 1, 0, none⟩ (.bool false)).setCell ⟨w.heap.size + 1, 1, none⟩ (.slice a5 n5 c5)).setCell ⟨w.heap.size + 1, 2, none⟩ (.slice a6 n6 c6))) :=
  Lib.hid ⟨a5, n5, c5, a6, n6, c6, rfl, h5.mono (by omega) (kept_set3 _ _ _ _ (by omega)), h6.mono (by omega) (kept_set3 _ _ _ _ (by omega)), ext_set3 hE _ _ _ (by omega)⟩
 clear h1 h5 h6 hE0 hE2 hE
 have r02 : Blk ((((w2).setCell ⟨w.heap.size + 1, 0, none⟩ (.bool false)).setCell ⟨w.heap.size + 1, 1, none⟩ (.slice a5 n5 c5)).setCell ⟨w.heap.size + 1, 2, none⟩ (.slice a6 n6 c6)) _ _ #[.bool false, .slice a5 n5 c5, .slice a6 n6 c6] := (((r0).set 0 (.bool false)).set 1 (.slice a5 n5 c5)).set 2 (.slice a6 n6 c6)
 have hr00 := r02.cell (i := 0) rfl
 have hr01 := r02.cell (i := 1) rfl
 have hr02 := r02.cell (i := 2) rfl
 go_wp2_with fail
 exact bodyPost_ret (v := .agg #[.bool false, .slice a5 n5 c5, .slice a6 n6 c6]) (by simp [results, Tryz.results55, go_sem, hr00, hr01, hr02]) rfl HF.out
def RCopyV (w : World) (b : Bool) (n n2 : Nat) (l : Nt) (xs : List It) (e : Ending) (w' : World) : Prop := ∃ a c a2 c2, e = .returned (.agg #[.bool b, .slice a n c, .slice a2 n2 c2]) ∧ NatS w.heap.size w' a n c l ∧ Sl rInt w.heap.size w' a2 n2 c2 xs ∧ Ext w w'
set_option maxRecDepth 100000 in
set_option maxHeartbeats 4000000 in
theorem r11CopyVec_any (w : World) (b : Bool) (a a2 : Option Addr) (n c n2 c2 : Nat) (l : Nt) (xs : List It) (h : NatS 0 w a n c l) (h2 : Sl rInt 0 w a2 n2 c2 xs) (hx : Hid (∀ x ∈ xs, x.2.length ≤ 1099511627776)) (hn : n ≤ 1099511627776) (hn2 : n2 ≤ 1099511627776) :
  Calls Tryz.prog 50 #[.agg #[.bool b, .slice a n c, .slice a2 n2 c2]] w (RCopyV w b n n2 l xs) := by
 go_enter Tryz.func50, Tryz.ntmps50
 go_upto_region 1 with (fail)
 have p0 := Blk.new w 32 #[.bool b, .slice a n c, .slice a2 n2 c2]
 have r0 := Blk.new (w.alloc (Obj.cells #[.bool b, .slice a n c, .slice a2 n2 c2] 32)) 32 #[.bool false, .slice none 0 0, .slice none 0 0]
 replace p0 := p0.ext ((Below.refl _ _).alloc (Nat.le_refl _) (Obj.cells #[.bool false, .slice none 0 0, .slice none 0 0] 32))
 have hEW : Ext w ((w.alloc (Obj.cells #[.bool b, .slice a n c, .slice a2 n2 c2] 32)).alloc (Obj.cells #[.bool false, .slice none 0 0, .slice none 0 0] 32)) := (((Below.refl _ w).alloc (by simp) _).alloc (by simp) _)
 generalize hgW : (w.alloc (Obj.cells #[.bool b, .slice a n c, .slice a2 n2 c2] 32)).alloc (Obj.cells #[.bool false, .slice none 0 0, .slice none 0 0] 32) = W at *
 clear hgW
 simp only [World.size_alloc] at r0
 have p0_ne_r0 : ¬ w.heap.size = w.heap.size + 1 := by omega
 have r0_ne_p0 : ¬ w.heap.size + 1 = w.heap.size := by omega
 replace p0_0 := p0.cell (i := 0) rfl
 replace p0_1 := p0.cell (i := 1) rfl
 replace p0_2 := p0.cell (i := 2) rfl
 replace r0_0 := r0.cell (i := 0) rfl
 replace r0_1 := r0.cell (i := 1) rfl
 replace r0_2 := r0.cell (i := 2) rfl
 replace r0_f0 := r0.free 0
 replace r0_f1 := r0.free 1
 replace r0_f2 := r0.free 2
 replace r0_lt := r0.lt
 have hW : w.heap.size + 1 < W.heap.size := r0_lt
 have hEd : Ext W W.drew := (Below.refl _ _).drew
 replace p0 := p0.ext hEd; replace p0_0 := p0.cell (i := 0) rfl; replace p0_1 := p0.cell (i := 1) rfl; replace p0_2 := p0.cell (i := 2) rfl; replace r0 := r0.ext hEd; replace r0_0 := r0.cell (i := 0) rfl; replace r0_1 := r0.cell (i := 1) rfl; replace r0_2 := r0.cell (i := 2) rfl; replace r0_f0 := r0.free 0; replace r0_f1 := r0.free 1; replace r0_f2 := r0.free 2; replace r0_lt := r0.lt
 have hE0 := Ext.trans hEW hEd
 have hsz : w.heap.size + 1 < W.drew.heap.size := hW
 go_region_held3 (fun w' => w'.cell? ⟨w.heap.size, 0, none⟩ = some (.bool b) ∧ w'.cell? ⟨w.heap.size, 1, none⟩ = some (.slice a n c) ∧ w'.cell? ⟨w.heap.size, 2, none⟩ = some (.slice a2 n2 c2)) (first | exact ⟨p0_0, p0_1, p0_2⟩ | go_keep)
  (first
  | (go_at_call 78; (with_reducible refine (r3Copy_any _ b a n c l (h.ext (Nat.le_refl _) hE0) hn).mono ?_); rintro e w1 ⟨a5, c5, rfl, h5, hE1⟩; (try replace h6 := h6.ext (Nat.le_refl _) hE1); replace h5 := h5.mono (show w.heap.size + 1 + 1 ≤ _ from hsz) (Kept.refl _ _); replace p0 := p0.ext hE1; replace p0_0 := p0.cell (i := 0) rfl; replace p0_1 := p0.cell (i := 1) rfl; replace p0_2 := p0.cell (i := 2) rfl; replace r0 := r0.ext hE1; replace r0_0 := r0.cell (i := 0) rfl; replace r0_1 := r0.cell (i := 1) rfl; replace r0_2 := r0.cell (i := 2) rfl; replace r0_f0 := r0.free 0; replace r0_f1 := r0.free 1; replace r0_f2 := r0.free 2; replace r0_lt := r0.lt; replace hsz := Nat.lt_of_lt_of_le hsz hE1.size; replace hE0 := Ext.trans hE0 hE1)
  | (go_at_call 79; (with_reducible refine (r3CopyAll_any _ a2 n2 c2 xs (h2.ext (Nat.le_refl _) hE0) hx hn2).mono ?_); rintro e w1 ⟨a6, c6, rfl, h6, hE1⟩; (try replace h5 := h5.ext (Nat.le_refl _) hE1); replace h6 := h6.mono (show w.heap.size + 1 + 1 ≤ _ from hsz) (Kept.refl _ _); replace p0 := p0.ext hE1; replace p0_0 := p0.cell (i := 0) rfl; replace p0_1 := p0.cell (i := 1) rfl; replace p0_2 := p0.cell (i := 2) rfl; replace r0 := r0.ext hE1; replace r0_0 := r0.cell (i := 0) rfl; replace r0_1 := r0.cell (i := 1) rfl; replace r0_2 := r0.cell (i := 2) rfl; replace r0_f0 := r0.free 0; replace r0_f1 := r0.free 1; replace r0_f2 := r0.free 2; replace r0_lt := r0.lt; replace hsz := Nat.lt_of_lt_of_le hsz hE1.size; replace hE0 := Ext.trans hE0 hE1))
 all_goals
  obtain ⟨wz, hwz⟩ : ∃ x : World, w1 = x := ⟨_, rfl⟩
  have HF : Hid (RCopyV w b n n2 l xs (.returned (.agg #[.bool b, .slice a5 n c5, .slice a6 n2 c6])) (((wz.setCell ⟨w.heap.size + 1, 0, none⟩ (.bool b)).setCell ⟨w.heap.size + 1, 1, none⟩ (.slice a5 n c5)).setCell ⟨w.heap.size + 1, 2, none⟩ (.slice a6 n2 c6))) := Lib.hid (by rw [← hwz]; exact ⟨a5, c5, a6, c6, rfl, (h5.mono (Nat.le_refl _) (kept_set3 _ _ _ _ (by omega))).mono (by omega) (Kept.refl _ _), (h6.mono (Nat.le_refl _) (kept_set3 _ _ _ _ (by omega))).mono (by omega) (Kept.refl _ _), ext_set3 hE0 _ _ _ (by omega)⟩)
  subst hwz
  clear h h2 h5 h6 hE0 p0 p0_0 p0_1 p0_2
  have r02 : Blk ((((w1).setCell ⟨w.heap.size + 1, 0, none⟩ (.bool b)).setCell ⟨w.heap.size + 1, 1, none⟩ (.slice a5 n c5)).setCell ⟨w.heap.size + 1, 2, none⟩ (.slice a6 n2 c6)) _ _ #[.bool b, .slice a5 n c5, .slice a6 n2 c6] := (((r0).set 0 (.bool b)).set 1 (.slice a5 n c5)).set 2 (.slice a6 n2 c6)
  have hr00 := r02.cell (i := 0) rfl
  have hr01 := r02.cell (i := 1) rfl
  have hr02 := r02.cell (i := 2) rfl
  go_wp2_with fail
  exact bodyPost_ret (v := .agg #[.bool b, .slice a5 n c5, .slice a6 n2 c6]) (by simp [results, Tryz.results50, go_sem, hr00, hr01, hr02]) rfl HF.out
set_option maxHeartbeats 1000000 in
theorem sameVec_yes (w : World) (b : Bool) (a a2 a3 a4 : Option Addr) (n c n2 c2 n3 c3 n4 c4 : Nat) (l : Nt) (xs : List It) (h : NatS 0 w a n c l) (h2 : NatS 0 w a2 n2 c2 l) (h3 : Sl rInt 0 w a3 n3 c3 xs) (h4 : Sl rInt 0 w a4 n4 c4 xs) :
  Calls Tryz.prog 13 #[.agg #[.bool b, .slice a n c, .slice a3 n3 c3], .agg #[.bool b, .slice a2 n2 c2, .slice a4 n4 c4]] w (Yes w) :=
 (sameVec_any w b b a a2 a3 a4 n c n2 c2 n3 c3 n4 c4 l l xs xs h h2 h3 h4 true (Lib.hid (by simp))).mono fun _ _ h => h
set_option maxHeartbeats 1000000 in
theorem noVec_yes (w : World) : Calls Tryz.prog 11 #[.agg #[.bool false, .slice none 0 0, .slice none 0 0]] w (Yes w) := by
 go_enter Tryz.func11, Tryz.ntmps11
 go_wp2_with fail
 have p0 := Blk.new w 32 #[.bool false, .slice none 0 0, .slice none 0 0]
 have hEW : Ext w (w.alloc (Obj.cells #[.bool false, .slice none 0 0, .slice none 0 0] 32)) := ((Below.refl _ w).alloc (by simp) _)
 generalize hgW : w.alloc (Obj.cells #[.bool false, .slice none 0 0, .slice none 0 0] 32) = W at *
 clear hgW
 replace p0_0 := p0.cell (i := 0) rfl
 replace p0_1 := p0.cell (i := 1) rfl
 replace p0_2 := p0.cell (i := 2) rfl
 refine (sameVec_yes W false none none none none 0 0 0 0 0 0 0 0 [] [] (natS_nil _ _) (natS_nil _ _) (Sl.empty _ _ _ _) (Sl.empty _ _ _ _)).mono ?_
 rintro e w1 ⟨rfl, hE1⟩
 have HE := Lib.hid (Ext.trans hEW hE1)
 clear hEW hE1
 go_wp2_with fail
 go_ret
 exact ⟨rfl, HE.out⟩
end Go.Proofs.YtbhenelehhiakaaGreat
namespace Go.Proofs.YtbhenelehhiakaaGreat
open Go.RowKit
theorem ratS_mk {K B : Nat} {w : World} {q : Rat} {a a2 : Option Addr} {n c n2 c2 : Nat} (h : NatS B w a n c (limbs q.num.natAbs)) (h2 : NatS B w a2 n2 c2 (limbs q.den)) (hn : nl q.num.natAbs ≤ K) (hn2 : nl q.den ≤ K) : RatS K w (decide (q.num < 0)) a n c false a2 n2 c2 q := by
 obtain ⟨_, _, _, _, _, _, _, _, e, l, l2, g1, g2, g3⟩ := ratK_mk (Sl.zero h) (Sl.zero h2) hn hn2
 cases e
 exact ⟨l, l2, g1, g2, g3⟩
theorem nl_sumZ {K : Nat} (n : Nat) (f : Nat → Int) (h : ∀ j, nl (f j).natAbs ≤ K) : nl (sumZ n f).natAbs ≤ K + n := by
 induction n with
 | zero => show nl (0 : Int).natAbs ≤ _; rw [Int.natAbs_zero, nl_zero]; omega
 | succ n ih =>
  show nl (sumZ n f + f n).natAbs ≤ _
  have := nl_addI2 (sumZ n f) (f n)
  have := h n
  omega
end Go.Proofs.YtbhenelehhiakaaGreat
namespace Go.Proofs.YtbhenelehhiakaaGreat
open Go.RowKit
def applyQ (A : List (List Rat)) (Y : List Rat) (r n : Nat) : List Rat := (List.range r).map fun i => sumN n fun k => entQ A i k * (Y[k]?).getD 0
def applyZ (zss : List (List Int)) (ys : List Int) (n i : Nat) : Int := sumZ n fun k => entry zss i k * (ys[k]?).getD 0
def applyE (x : Int × List (List Int)) (y : Int × List Int) : Int := if checkE x.1 x.2 ≠ 0 then checkE x.1 x.2 else if y.1 = 0 then 6 else if colsOf x.2 ≠ y.2.length then 2 else 0
theorem apply_eq (zss : List (List Int)) (ys : List Int) (d d' : Int) (hd : d ≠ 0) (hd' : d' ≠ 0) (r n : Nat) : frV (d * d') ((List.range r).map (applyZ zss ys n)) = applyQ (fracs d zss) (frV d' ys) r n := by
 unfold applyQ
 conv => lhs; unfold frV
 rw [List.map_map]
 refine List.map_congr_left fun i hi => ?_
 show ratv (applyZ zss ys n i) (d * d') = _
 unfold applyZ
 rw [ratv_sum (Int.mul_ne_zero hd hd')]
 refine sumN_congr fun k _ => ?_
 rw [entQ_fracs, frV_get, ratv_mul]
set_option maxRecDepth 100000 in
set_option maxHeartbeats 40000000 in
theorem apply_ans (K : Nat) (hK : K + K + 1099511627776 ≤ 8796093022208) (w : World) (b : Bool) (a a2 : Option Addr) (n c n2 c2 : Nat) (x : Int × List (List Int)) (h : MatS K w b a n c a2 n2 c2 x.1 x.2) (b' : Bool) (a' a2' : Option Addr) (n' c' n2' c2' : Nat) (y : Int × List Int) (h' : VecS K w b' a' n' c' a2' n2' c2' y.1 y.2) (hn2 : n2 ≤ 1099511627776) (hn2' : n2' ≤ 1099511627776) (hm : colsOf x.2 ≤ 1099511627776) (s : Int) (hs : Hid (applyE x y = s)) (qs : List Rat) (hqs : Hid (applyQ (fracs x.1 x.2) (frV y.1 y.2) n2 n2' = qs)) :
  Calls Tryz.prog 54 #[.agg #[.bool b, .slice a n c, .slice a2 n2 c2], .agg #[.bool b', .slice a' n' c', .slice a2' n2' c2']] w (RVAns w s qs) := by
 obtain ⟨s0, hs0⟩ : ∃ t, checkE x.1 x.2 = t := ⟨_, rfl⟩
 obtain ⟨m, hcm⟩ : ∃ t, colsOf x.2 = t := ⟨_, rfl⟩
 obtain ⟨s1, hs1⟩ : ∃ t, vecsE [y] = t := ⟨_, rfl⟩
 have HS0 := Lib.hid hs0
 have HS1 := Lib.hid hs1
 have HCM := Lib.hid hcm
 have hl' := h'.len
 have HSS : Hid (s = if s0 ≠ 0 then s0 else if y.1 = 0 then 6 else if m ≠ n2' then 2 else 0) := Lib.hid (by rw [← hs.out, ← hs0, ← hl', ← hcm]; rfl)
 rw [hcm] at hm
 have HL' := Lib.hid hl'
 clear hs0 hs1 hcm hl'
 go_enter Tryz.func54, Tryz.ntmps54
 go_wp2_with fail
 have p0 := Blk.new w 28 #[.bool b, .slice a n c, .slice a2 n2 c2]
 have p1 := Blk.new (w.alloc (Obj.cells #[.bool b, .slice a n c, .slice a2 n2 c2] 28)) 32 #[.bool b', .slice a' n' c', .slice a2' n2' c2']
 replace p0 := p0.ext ((Below.refl _ _).alloc (Nat.le_refl _) (Obj.cells #[.bool b', .slice a' n' c', .slice a2' n2' c2'] 32))
 have r0 := Blk.new ((w.alloc (Obj.cells #[.bool b, .slice a n c, .slice a2 n2 c2] 28)).alloc (Obj.cells #[.bool b', .slice a' n' c', .slice a2' n2' c2'] 32)) 32 #[.bool false, .slice none 0 0, .slice none 0 0]
 replace p0 := p0.ext ((Below.refl _ _).alloc (Nat.le_refl _) (Obj.cells #[.bool false, .slice none 0 0, .slice none 0 0] 32))
 replace p1 := p1.ext ((Below.refl _ _).alloc (Nat.le_refl _) (Obj.cells #[.bool false, .slice none 0 0, .slice none 0 0] 32))
 have hEW : Ext w (((w.alloc (Obj.cells #[.bool b, .slice a n c, .slice a2 n2 c2] 28)).alloc (Obj.cells #[.bool b', .slice a' n' c', .slice a2' n2' c2'] 32)).alloc (Obj.cells #[.bool false, .slice none 0 0, .slice none 0 0] 32)) := ((((Below.refl _ w).alloc (by simp) _).alloc (by simp) _).alloc (by simp; omega) _)
 generalize hgW : ((w.alloc (Obj.cells #[.bool b, .slice a n c, .slice a2 n2 c2] 28)).alloc (Obj.cells #[.bool b', .slice a' n' c', .slice a2' n2' c2'] 32)).alloc (Obj.cells #[.bool false, .slice none 0 0, .slice none 0 0] 32) = W at *
 clear hgW
 simp only [World.size_alloc] at p1 r0
 have p0_ne_p1 : ¬ w.heap.size = w.heap.size + 1 := by omega
 have p0_ne_r0 : ¬ w.heap.size = w.heap.size + 1 + 1 := by omega
 have p1_ne_p0 : ¬ w.heap.size + 1 = w.heap.size := by omega
 have p1_ne_r0 : ¬ w.heap.size + 1 = w.heap.size + 1 + 1 := by omega
 have r0_ne_p0 : ¬ w.heap.size + 1 + 1 = w.heap.size := by omega
 have r0_ne_p1 : ¬ w.heap.size + 1 + 1 = w.heap.size + 1 := by omega
 replace p0_0 := p0.cell (i := 0) rfl
 replace p0_1 := p0.cell (i := 1) rfl
 replace p0_2 := p0.cell (i := 2) rfl
 replace p0_f0 := p0.free 0
 replace p0_f1 := p0.free 1
 replace p0_f2 := p0.free 2
 replace p0_lt := p0.lt
 replace p1_0 := p1.cell (i := 0) rfl
 replace p1_1 := p1.cell (i := 1) rfl
 replace p1_2 := p1.cell (i := 2) rfl
 replace p1_f0 := p1.free 0
 replace p1_f1 := p1.free 1
 replace p1_f2 := p1.free 2
 replace p1_lt := p1.lt
 replace r0_0 := r0.cell (i := 0) rfl
 replace r0_1 := r0.cell (i := 1) rfl
 replace r0_2 := r0.cell (i := 2) rfl
 replace r0_f0 := r0.free 0
 replace r0_f1 := r0.free 1
 replace r0_f2 := r0.free 2
 replace r0_lt := r0.lt
 have hWr : w.heap.size + 1 + 1 < W.heap.size := r0.lt
 (with_reducible refine (check_any K (by omega) W b a a2 n c n2 c2 x.1 x.2 (h.ext hEW) s0 HS0).mono ?_)
 rintro e w1 ⟨rfl, hE1⟩
 replace p0 := p0.ext hE1; replace p0_0 := p0.cell (i := 0) rfl; replace p0_1 := p0.cell (i := 1) rfl; replace p0_2 := p0.cell (i := 2) rfl; replace p0_f0 := p0.free 0; replace p0_f1 := p0.free 1; replace p0_f2 := p0.free 2; replace p0_lt := p0.lt; replace p1 := p1.ext hE1; replace p1_0 := p1.cell (i := 0) rfl; replace p1_1 := p1.cell (i := 1) rfl; replace p1_2 := p1.cell (i := 2) rfl; replace p1_f0 := p1.free 0; replace p1_f1 := p1.free 1; replace p1_f2 := p1.free 2; replace p1_lt := p1.lt; replace r0 := r0.ext hE1; replace r0_0 := r0.cell (i := 0) rfl; replace r0_1 := r0.cell (i := 1) rfl; replace r0_2 := r0.cell (i := 2) rfl; replace r0_f0 := r0.free 0; replace r0_f1 := r0.free 1; replace r0_f2 := r0.free 2; replace r0_lt := r0.lt
 have hE0 := Ext.trans hEW hE1
 have hsz1 := hE1.size
 clear hEW hE1
 by_cases h0 : s0 = 0
 ·subst h0
  have hx0 := checkE_zero HS0.out
  have hd0 : x.1 ≠ 0 := hx0.1
  have hrow : Hid (∀ zs ∈ x.2, zs.length = m) := Lib.hid (fun zs hz => by rw [← HCM.out]; exact evenB_all hx0.2 zs hz)
  have hrowb : Hid (∀ zs ∈ x.2, zs.length ≤ 1099511627776) := Lib.hid (fun zs hz => by rw [hrow.out zs hz]; omega)
  clear hx0
  go_wp2_with fail
  have y0 := Blk.new w1 32 #[.bool b', .slice a' n' c', .slice a2' n2' c2']
  have hEW2 : Ext w1 (w1.alloc (Obj.cells #[.bool b', .slice a' n' c', .slice a2' n2' c2'] 32)) := ((Below.refl _ w1).alloc (by simp) _)
  generalize hgW2 : w1.alloc (Obj.cells #[.bool b', .slice a' n' c', .slice a2' n2' c2'] 32) = W2 at *
  clear hgW2
  replace y0_0 := y0.cell (i := 0) rfl
  replace y0_1 := y0.cell (i := 1) rfl
  replace y0_2 := y0.cell (i := 2) rfl
  replace p0 := p0.ext hEW2; replace p0_0 := p0.cell (i := 0) rfl; replace p0_1 := p0.cell (i := 1) rfl; replace p0_2 := p0.cell (i := 2) rfl; replace p0_f0 := p0.free 0; replace p0_f1 := p0.free 1; replace p0_f2 := p0.free 2; replace p0_lt := p0.lt; replace p1 := p1.ext hEW2; replace p1_0 := p1.cell (i := 0) rfl; replace p1_1 := p1.cell (i := 1) rfl; replace p1_2 := p1.cell (i := 2) rfl; replace p1_f0 := p1.free 0; replace p1_f1 := p1.free 1; replace p1_f2 := p1.free 2; replace p1_lt := p1.lt; replace r0 := r0.ext hEW2; replace r0_0 := r0.cell (i := 0) rfl; replace r0_1 := r0.cell (i := 1) rfl; replace r0_2 := r0.cell (i := 2) rfl; replace r0_f0 := r0.free 0; replace r0_f1 := r0.free 1; replace r0_f2 := r0.free 2; replace r0_lt := r0.lt
  replace hE0 := Ext.trans hE0 hEW2
  have hsz2 := hEW2.size
  (with_reducible refine (vecCheck_any K (by omega) W2 _ 1 1 [y] (one_vec y0 (h'.ext hE0)) s1 HS1).mono ?_)
  rintro e w3 ⟨rfl, hE3⟩
  replace p0 := p0.ext hE3; replace p0_0 := p0.cell (i := 0) rfl; replace p0_1 := p0.cell (i := 1) rfl; replace p0_2 := p0.cell (i := 2) rfl; replace p0_f0 := p0.free 0; replace p0_f1 := p0.free 1; replace p0_f2 := p0.free 2; replace p0_lt := p0.lt; replace p1 := p1.ext hE3; replace p1_0 := p1.cell (i := 0) rfl; replace p1_1 := p1.cell (i := 1) rfl; replace p1_2 := p1.cell (i := 2) rfl; replace p1_f0 := p1.free 0; replace p1_f1 := p1.free 1; replace p1_f2 := p1.free 2; replace p1_lt := p1.lt; replace r0 := r0.ext hE3; replace r0_0 := r0.cell (i := 0) rfl; replace r0_1 := r0.cell (i := 1) rfl; replace r0_2 := r0.cell (i := 2) rfl; replace r0_f0 := r0.free 0; replace r0_f1 := r0.free 1; replace r0_f2 := r0.free 2; replace r0_lt := r0.lt
  replace hE0 := Ext.trans hE0 hE3
  have hsz3 := hE3.size
  clear y0 y0_0 y0_1 y0_2 hE3 hEW2
  by_cases hy0 : y.1 = 0
  ·obtain rfl : s = 6 := by rw [HSS.out, if_neg (by decide), if_pos hy0]
   obtain rfl : s1 = 6 := by rw [← HS1.out]; unfold vecsE; rw [if_pos hy0]
   clear hy0
   have HF : Hid (RVAns w 6 qs (.returned (.tuple #[.agg #[.bool false, .slice none 0 0, .slice none 0 0], .int .i64 6])) (((w3.setCell ⟨w.heap.size + 1 + 1, 0, none⟩ (.bool false)).setCell ⟨w.heap.size + 1 + 1, 1, none⟩ (.slice none 0 0)).setCell ⟨w.heap.size + 1 + 1, 2, none⟩ (.slice none 0 0))) := Lib.hid ⟨false, none, 0, 0, none, 0, 0, rfl, ext_set3 hE0 _ _ _ (by omega), fun _ => ⟨rfl, rfl, rfl, rfl, rfl, rfl, rfl⟩, fun h => absurd h (by decide)⟩
   clear hE0 h h'
   have r02 : Blk ((((w3).setCell ⟨w.heap.size + 1 + 1, 0, none⟩ (.bool false)).setCell ⟨w.heap.size + 1 + 1, 1, none⟩ (.slice none 0 0)).setCell ⟨w.heap.size + 1 + 1, 2, none⟩ (.slice none 0 0)) _ _ #[.bool false, .slice none 0 0, .slice none 0 0] := (((r0).set 0 (.bool false)).set 1 (.slice none 0 0)).set 2 (.slice none 0 0)
   have hr00 := r02.cell (i := 0) rfl
   have hr01 := r02.cell (i := 1) rfl
   have hr02 := r02.cell (i := 2) rfl
   go_wp2_with fail
   exact bodyPost_ret (v := .tuple #[.agg #[.bool false, .slice none 0 0, .slice none 0 0], .int .i64 6]) (by simp [results, Tryz.results54, go_sem, hr00, hr01, hr02]) rfl HF.out
  ·obtain rfl : s1 = 0 := by rw [← HS1.out]; unfold vecsE; rw [if_neg hy0]; rfl
   go_wp2_with fail
   (with_reducible refine (qsize_any K (by omega) w3 b a a2 n c n2 c2 x.1 x.2 (h.ext hE0) hn2 hrowb m HCM).mono ?_)
   rintro e w4 ⟨rfl, hE4⟩
   replace p0 := p0.ext hE4; replace p0_0 := p0.cell (i := 0) rfl; replace p0_1 := p0.cell (i := 1) rfl; replace p0_2 := p0.cell (i := 2) rfl; replace p0_f0 := p0.free 0; replace p0_f1 := p0.free 1; replace p0_f2 := p0.free 2; replace p0_lt := p0.lt; replace p1 := p1.ext hE4; replace p1_0 := p1.cell (i := 0) rfl; replace p1_1 := p1.cell (i := 1) rfl; replace p1_2 := p1.cell (i := 2) rfl; replace p1_f0 := p1.free 0; replace p1_f1 := p1.free 1; replace p1_f2 := p1.free 2; replace p1_lt := p1.lt; replace r0 := r0.ext hE4; replace r0_0 := r0.cell (i := 0) rfl; replace r0_1 := r0.cell (i := 1) rfl; replace r0_2 := r0.cell (i := 2) rfl; replace r0_f0 := r0.free 0; replace r0_f1 := r0.free 1; replace r0_f2 := r0.free 2; replace r0_lt := r0.lt
   replace hE0 := Ext.trans hE0 hE4
   have hsz4 := hE4.size
   clear hE4
   by_cases hmn : m = n2'
   ·subst hmn
    obtain rfl : s = 0 := by rw [HSS.out, if_neg (by decide), if_neg hy0, if_neg (by simp)]
    obtain ⟨lx, gx1, gx2, gx3, gx4⟩ := h.ext hE0
    obtain ⟨ly, gy1, gy2, gy3, gy4⟩ := h'.ext hE0
    have GX2 := Lib.hid gx2
    have GY2 := Lib.hid gy2
    have GX4 := Lib.hid gx4
    have GY4 := Lib.hid gy4
    have GX1 := Lib.hid gx1
    have GY1 := Lib.hid gy1
    have hm1 := gx4.most
    have hm2 := gx4.cap
    have HQE : Hid (frV (x.1 * y.1) ((List.range n2).map (applyZ x.2 y.2 m)) = qs) := Lib.hid (by rw [← hqs.out]; exact apply_eq _ _ _ _ hd0 hy0 _ _)
    obtain ⟨DD, hDD⟩ : ∃ t, x.1 * y.1 = t := ⟨_, rfl⟩
    have HDD := Lib.hid hDD
    have HQE2 : Hid (frV DD ((List.range n2).map (applyZ x.2 y.2 m)) = qs) := Lib.hid (by rw [← hDD]; exact HQE.out)
    have hdd0 : DD ≠ 0 := by rw [← hDD]; exact Int.mul_ne_zero hd0 hy0
    have HE4 := Lib.hid hE0
    have HR0 := Lib.hid r0
    have HP0 := Lib.hid p0
    have HP1 := Lib.hid p1
    have hr0l := r0_lt
    clear gx1 gy1 gx2 gy2 gx4 gy4 h h' hDD hE0 hd0 hy0
    go_wp2_with fail
    go_loopg [10, 43] n2 (fun q vo vi wr => ∃ i : Nat, i ≤ n2 ∧ q = n2 - i ∧ vi = .int .i64 (i : Int) ∧ Hid (∃ css, Grp (rIntK (K + K + m)) w4.heap.size 25 wr vo i ((List.range i).map (applyZ x.2 y.2 m)) css) ∧ Hid (Ext w4 wr))
    case atStart => exact ⟨0, Nat.zero_le _, by omega, rfl, Lib.hid ⟨[], Grp.nil _ _ _ _⟩, Lib.hid (Ext.refl _)⟩
    case round =>
     clear p0 p1 r0 p0_0 p0_1 p0_2 p1_0 p1_1 p1_2 r0_0 r0_1 r0_2 p0_f0 p0_f1 p0_f2 p0_lt p1_f0 p1_f1 p1_f2 p1_lt r0_f0 r0_f1 r0_f2 r0_lt
     obtain ⟨i, hi, hq5, rfl, HG, HE⟩ := hrel
     by_cases hin : i < n2
     ·obtain ⟨b5, o5, a5, n5, c5, zs, rfl, hb5, hzs, hc5, hZ⟩ := Sl.getRow GX4.out hin
      have hn5 : n5 = m := by rw [← hZ.len]; exact hrow.out zs (List.mem_of_getElem? hzs)
      subst hn5
      have HZS := Lib.hid hzs
      have HZ := Lib.hid hZ
      have hm5 := hZ.most
      have hm6 := hZ.cap
      replace hc5 := cellE HE.out hc5
      have hp1 : (i : Int) < (n2 : Int) := by omega
      obtain ⟨wo, rfl⟩ : ∃ wo : World, wo = wr := ⟨_, rfl⟩
      have p0 := HP0.out.ext HE.out
      skip
      replace p0_0 := p0.cell (i := 0) rfl
      replace p0_1 := p0.cell (i := 1) rfl
      replace p0_2 := p0.cell (i := 2) rfl
      obtain ⟨css, hG⟩ := HG.out
      have hlt := hG.own.lt
      have HG0 := Lib.hid hG
      have hwo := HE.out.size
      clear hzs hZ hG
      obtain ⟨F, hF⟩ : ∃ F : Nat → Int, F = fun k => entry x.2 i k * (y.2[k]?).getD 0 := ⟨_, rfl⟩
      have HFF : Hid (∀ k, F k = entry x.2 i k * (y.2[k]?).getD 0) := Lib.hid (fun k => by rw [hF])
      have HFA : Hid (applyZ x.2 y.2 n5 i = sumZ n5 F) := Lib.hid (by rw [hF]; rfl)
      clear hF
      go_upto_region 15 with (fail)
      have sb := Blk.new wo 25 #[.bool false, .slice none 0 0]
      have hEWs : Ext wo (wo.alloc (Obj.cells #[.bool false, .slice none 0 0] 25)) := ((Below.refl _ wo).alloc (by simp) _)
      generalize hgWs : wo.alloc (Obj.cells #[.bool false, .slice none 0 0] 25) = Ws at *
      clear hgWs
      replace sb_0 := sb.cell (i := 0) rfl
      replace sb_1 := sb.cell (i := 1) rfl
      have hsl : wo.heap.size < Ws.heap.size := sb.lt
      have HS0' : Hid (∃ sx au nu cu, Blk Ws wo.heap.size 25 #[.bool sx, .slice au nu cu] ∧ NatS Ws.heap.size Ws au nu cu (limbs (sumZ 0 F).natAbs) ∧ Hid (ival sx (limbs (sumZ 0 F).natAbs) = sumZ 0 F) ∧ nu ≤ K + K + 0) := Lib.hid ⟨false, none, 0, 0, sb, by have : limbs (sumZ 0 F).natAbs = [] := limbs_zero; rw [this]; exact natS_nil _ _, Lib.hid (by have : limbs (sumZ 0 F).natAbs = [] := limbs_zero; rw [this]; rfl), Nat.zero_le _⟩
      have HEs := Lib.hid hEWs
      replace p0 := p0.ext hEWs
      replace p0_0 := p0.cell (i := 0) rfl
      replace p0_1 := p0.cell (i := 1) rfl
      replace p0_2 := p0.cell (i := 2) rfl
      clear sb sb_0 sb_1 hEWs
      go_wp2_with fail
      go_loopg [49] n5 (fun q vi wr => ∃ k : Nat, k ≤ n5 ∧ q = n5 - k ∧ vi = .int .i64 (k : Int) ∧ Hid (∃ sx au nu cu, Blk wr wo.heap.size 25 #[.bool sx, .slice au nu cu] ∧ NatS Ws.heap.size wr au nu cu (limbs (sumZ k F).natAbs) ∧ Hid (ival sx (limbs (sumZ k F).natAbs) = sumZ k F) ∧ nu ≤ K + K + k) ∧ Hid (Ext wo wr) ∧ Ws.heap.size ≤ wr.heap.size)
      case atStart => exact ⟨0, Nat.zero_le _, by omega, rfl, HS0', HEs, Nat.le_refl _⟩
      case round =>
       clear HS0' HEs p0 p0_0 p0_1 p0_2 hc5
       obtain ⟨k, hk, hq6, rfl, HSk, HEk, hwr⟩ := hrel
       obtain ⟨sx, au, nu, cu, s, hx, HVx, hnx⟩ := HSk.out
       skip
       by_cases hkn : k < n5
       ·obtain ⟨b7, o7, s7, a7, n7, c7, l7, z7, rfl, hb7, hz7, hc7, hc8, h7, hi7, hn7⟩ := HZ.out.getInt (i := k) hkn
        obtain ⟨b8, o8, s8, a8, n8, c8, l8, z8, rfl, hb8, hz8, hd8, hd9, h8, hi8, hn8⟩ := GY4.out.getInt (i := k) hkn
        have p1 := HP1.out.ext (Ext.trans HE.out HEk.out)
        skip
        replace p1_0 := p1.cell (i := 0) rfl
        replace p1_1 := p1.cell (i := 1) rfl
        replace p1_2 := p1.cell (i := 2) rfl
        replace s_0 := s.cell (i := 0) rfl
        replace s_1 := s.cell (i := 1) rfl
        replace s_f0 := s.free 0
        replace s_f1 := s.free 1
        replace s_lt := s.lt
        have HI7 := Lib.hid hi7
        have HI8 := Lib.hid hi8
        obtain ⟨z1, hz1⟩ : ∃ z, z7 * z8 = z := ⟨_, rfl⟩
        have HZ1 := Lib.hid hz1
        have hfk : F k = z1 := by rw [HFF.out, ← hz1]; unfold entry; rw [HZS.out, hz8]; show ((zs[k]?).getD 0) * z8 = _; rw [hz7]; rfl
        have hss : sumZ (k + 1) F = sumZ k F + z1 := by rw [← hfk]; rfl
        obtain ⟨z0, hz0⟩ : ∃ z, sumZ k F = z := ⟨_, rfl⟩
        rw [hz0] at hss hx HVx
        obtain ⟨z2, hz2⟩ : ∃ z, z0 + z1 = z := ⟨_, rfl⟩
        rw [hz2] at hss
        have HZ2 := Lib.hid hz2
        have HSS2 := Lib.hid hss
        have hEww := Ext.trans HE.out HEk.out
        replace hc7 := cellE hEww hc7
        replace hc8 := cellE hEww hc8
        replace hd8 := cellE hEww hd8
        replace hd9 := cellE hEww hd9
        have hp2 : (k : Int) < (n5 : Int) := by omega
        clear hz7 hz8 hi7 hi8 hz1 hz2 hz0 hss hfk HSk
        go_upto_region 18 with (fail)
        have x0 := Blk.new wr 25 #[.bool s7, .slice a7 n7 c7]
        have hEW4 : Ext wr (wr.alloc (Obj.cells #[.bool s7, .slice a7 n7 c7] 25)) := ((Below.refl _ wr).alloc (by simp) _)
        generalize hgW4 : wr.alloc (Obj.cells #[.bool s7, .slice a7 n7 c7] 25) = W4 at *
        clear hgW4
        replace x0_0 := x0.cell (i := 0) rfl
        replace x0_1 := x0.cell (i := 1) rfl
        have hd : Ext W4 W4.drew := (Below.refl _ _).drew
        have hEd := Ext.trans hEW4 hd
        have hx0l : wr.heap.size < W4.heap.size := x0.lt
        have hE0 := Ext.trans HEk.out hEd
        replace hd8 := cellE hEd hd8
        replace hd9 := cellE hEd hd9
        replace p1 := p1.ext hEd; replace p1_0 := p1.cell (i := 0) rfl; replace p1_1 := p1.cell (i := 1) rfl; replace p1_2 := p1.cell (i := 2) rfl; replace s := s.ext hEd; replace s_0 := s.cell (i := 0) rfl; replace s_1 := s.cell (i := 1) rfl; replace s_f0 := s.free 0; replace s_f1 := s.free 1; replace s_lt := s.lt
        replace x0 := x0.ext hd; replace x0_0 := x0.cell (i := 0) rfl; replace x0_1 := x0.cell (i := 1) rfl
        replace hx := hx.ext (Nat.le_refl _) hEd
        replace h7 := h7.ext (Nat.le_refl _) (Ext.trans hEww hEd)
        replace h8 := h8.ext (Nat.le_refl _) (Ext.trans hEww hEd)
        have hsz : Ws.heap.size ≤ W4.drew.heap.size := Nat.le_trans hwr hEd.size
        have hb8w : b8 < wo.heap.size := Nat.lt_of_lt_of_le hb8 hwo
        have n1' : ¬ w.heap.size + 1 = wo.heap.size := by omega
        have n2'' : ¬ wo.heap.size = w.heap.size + 1 := by omega
        have n3' : ¬ b8 = wo.heap.size := by omega
        have n4' : ¬ wo.heap.size = b8 := by omega
        have n5' : ¬ wr.heap.size = wo.heap.size := by omega
        have n6' : ¬ wo.heap.size = wr.heap.size := by omega
        clear hc7 hc8 hd hEW4 hEd hEww
        refine wp_region_noPanic ?_
        refine wp_region_held_drew (S := (fun w' => w'.cell? ⟨b8, o8 + k * 2, none⟩ = some (.bool s8) ∧ w'.cell? ⟨b8, o8 + k * 2 + 1, none⟩ = some (.slice a8 n8 c8) ∧ w'.cell? ⟨wr.heap.size, 0, none⟩ = some (.bool s7) ∧ w'.cell? ⟨wr.heap.size, 1, none⟩ = some (.slice a7 n7 c7) ∧ w'.cell? ⟨w.heap.size + 1, 0, none⟩ = some (.bool b') ∧ w'.cell? ⟨w.heap.size + 1, 1, none⟩ = some (.slice a' n' c') ∧ w'.cell? ⟨w.heap.size + 1, 2, none⟩ = some (.slice (some ⟨b8, o8, none⟩) n5 c2'))) (by kernel_rfl) ⟨hd8, hd9, x0_0, x0_1, p1_0, p1_1, p1_2⟩ (fun hHeld => ?_)
        refine takeD 1 55 (v := ?_) rfl rfl (by kernel_rfl) (by kernel_rfl) (by kernel_rfl) (fun _ _ _ h => h) (Or.inl ⟨by kernel_rfl, ?hy⟩) hHeld ?_
        case hy => (intro w hSw; (try dsimp only at hSw); go_simp; try with_reducible rfl)
        try simp only [List.setIfInBounds_toArray, List.set_cons_zero, List.set_cons_succ]
        refine takeD 2 56 (v := ?_) rfl rfl (by kernel_rfl) (by kernel_rfl) (by kernel_rfl) (fun _ _ _ h => h) (Or.inl ⟨by kernel_rfl, ?hy⟩) hHeld ?_
        case hy => (intro w hSw; (try dsimp only at hSw); go_simp; try with_reducible rfl)
        try simp only [List.setIfInBounds_toArray, List.set_cons_zero, List.set_cons_succ]
        refine takeD 3 57 (v := ?_) rfl rfl (by kernel_rfl) (by kernel_rfl) (by kernel_rfl) (fun _ _ _ h => h) (Or.inl ⟨by kernel_rfl, ?hy⟩) hHeld ?_
        case hy => (intro w hSw; (try dsimp only at hSw); go_simp; try with_reducible rfl)
        try simp only [List.setIfInBounds_toArray, List.set_cons_zero, List.set_cons_succ]
        refine takeD 4 58 (v := ?_) rfl rfl (by kernel_rfl) (by kernel_rfl) (by kernel_rfl) (fun _ _ _ h => h) (Or.inl ⟨by kernel_rfl, ?hy⟩) hHeld ?_
        case hy => (intro w hSw; (try dsimp only at hSw); go_simp; try with_reducible rfl)
        try simp only [List.setIfInBounds_toArray, List.set_cons_zero, List.set_cons_succ]
        refine takeD 5 59 (v := ?_) rfl rfl (by kernel_rfl) (by kernel_rfl) (by kernel_rfl) (fun _ _ _ h => h) (Or.inl ⟨by kernel_rfl, ?hy⟩) hHeld ?_
        case hy => (intro w hSw; (try dsimp only at hSw); go_simp; try with_reducible rfl)
        try simp only [List.setIfInBounds_toArray, List.set_cons_zero, List.set_cons_succ]
        refine takeD 6 60 (v := ?_) rfl rfl (by kernel_rfl) (by kernel_rfl) (by kernel_rfl) (fun _ _ _ h => h) (Or.inl ⟨by kernel_rfl, ?hy⟩) hHeld ?_
        case hy => (intro w hSw; (try dsimp only at hSw); go_simp; try with_reducible rfl)
        try simp only [List.setIfInBounds_toArray, List.set_cons_zero, List.set_cons_succ]
        refine wpAnyH_ready (rs := [0, 7]) (by kernel_rfl) (by simp) ?_
        refine AllReadyH.cons rfl (fun Kc hKc => ?_) (AllReadyH.cons rfl (fun Kc hKc => ?_) AllReadyH.nil)
        rotate_left 1
        focus
         refine Eq.mpr (if_pos (by kernel_rfl)) ?_
         go_simp
         ((with_reducible refine (zmul_b s7 s8 _ a7 a8 n7 c7 n8 c8 l7 l8 _ _ h7 h8 hn7 hn8 (by omega) HI7 HI8 z1 HZ1).mono ?_); rintro e w1 ⟨s9, a9, n9, c9, rfl, h9, HV9, hn9, hE1⟩; replace x0 := x0.ext hE1; replace x0_0 := x0.cell (i := 0) rfl; replace x0_1 := x0.cell (i := 1) rfl; replace p1 := p1.ext hE1; replace p1_0 := p1.cell (i := 0) rfl; replace p1_1 := p1.cell (i := 1) rfl; replace p1_2 := p1.cell (i := 2) rfl; replace s := s.ext hE1; replace s_0 := s.cell (i := 0) rfl; replace s_1 := s.cell (i := 1) rfl; replace s_f0 := s.free 0; replace s_f1 := s.free 1; replace s_lt := s.lt; replace hd8 := cellE hE1 hd8; replace hd9 := cellE hE1 hd9; replace hx := hx.ext (Nat.le_refl _) hE1; replace h7 := h7.ext (Nat.le_refl _) hE1; replace h8 := h8.ext (Nat.le_refl _) hE1; replace h9 := h9.mono hsz (Kept.refl _ _); replace hsz := Nat.le_trans hsz hE1.size; replace hE0 := Ext.trans hE0 hE1)
         go_wp2_with fail
         refine hKc.out _ _ ⟨hd8, hd9, x0_0, x0_1, p1_0, p1_1, p1_2⟩ (fun hHeld => ?_)
         clear hKc Kc
         try simp only [Act.put, List.setIfInBounds_toArray, List.set_cons_zero, List.set_cons_succ]
         refine stepD 0 rfl (by kernel_rfl) (fun Kc hKc => ?_)
         refine Eq.mpr (if_pos (by kernel_rfl)) ?_
         go_simp
         refine hKc.out _ _ ⟨hd8, hd9, x0_0, x0_1, p1_0, p1_1, p1_2⟩ (fun hHeld => ?_)
         clear hKc Kc
         try simp only [Act.put, List.setIfInBounds_toArray, List.set_cons_zero, List.set_cons_succ]
        rotate_right 1
        focus
         refine Eq.mpr (if_pos (by kernel_rfl)) ?_
         go_simp
         refine hKc.out _ _ ⟨hd8, hd9, x0_0, x0_1, p1_0, p1_1, p1_2⟩ (fun hHeld => ?_)
         clear hKc Kc
         try simp only [Act.put, List.setIfInBounds_toArray, List.set_cons_zero, List.set_cons_succ]
         refine stepD 7 rfl (by kernel_rfl) (fun Kc hKc => ?_)
         refine Eq.mpr (if_pos (by kernel_rfl)) ?_
         go_simp
         ((with_reducible refine (zmul_b s7 s8 _ a7 a8 n7 c7 n8 c8 l7 l8 _ _ h7 h8 hn7 hn8 (by omega) HI7 HI8 z1 HZ1).mono ?_); rintro e w1 ⟨s9, a9, n9, c9, rfl, h9, HV9, hn9, hE1⟩; replace x0 := x0.ext hE1; replace x0_0 := x0.cell (i := 0) rfl; replace x0_1 := x0.cell (i := 1) rfl; replace p1 := p1.ext hE1; replace p1_0 := p1.cell (i := 0) rfl; replace p1_1 := p1.cell (i := 1) rfl; replace p1_2 := p1.cell (i := 2) rfl; replace s := s.ext hE1; replace s_0 := s.cell (i := 0) rfl; replace s_1 := s.cell (i := 1) rfl; replace s_f0 := s.free 0; replace s_f1 := s.free 1; replace s_lt := s.lt; replace hd8 := cellE hE1 hd8; replace hd9 := cellE hE1 hd9; replace hx := hx.ext (Nat.le_refl _) hE1; replace h7 := h7.ext (Nat.le_refl _) hE1; replace h8 := h8.ext (Nat.le_refl _) hE1; replace h9 := h9.mono hsz (Kept.refl _ _); replace hsz := Nat.le_trans hsz hE1.size; replace hE0 := Ext.trans hE0 hE1)
         go_wp2_with fail
         refine hKc.out _ _ ⟨hd8, hd9, x0_0, x0_1, p1_0, p1_1, p1_2⟩ (fun hHeld => ?_)
         clear hKc Kc
         try simp only [Act.put, List.setIfInBounds_toArray, List.set_cons_zero, List.set_cons_succ]
        all_goals
         refine stepD 8 rfl (by kernel_rfl) (fun Kc hKc => ?_)
         refine Eq.mpr (if_pos (by kernel_rfl)) ?_
         go_simp
         ((with_reducible refine (zadd_b (K := K + K + k) sx s9 _ au a9 nu cu n9 c9 _ _ z0 z1 (hx.mono (Nat.zero_le _) (Kept.refl _ _)) (h9.mono (Nat.zero_le _) (Kept.refl _ _)) hnx (by omega) (by omega) HVx HV9 z2 HZ2).mono ?_); rintro e w1 ⟨s11, a11, n11, c11, rfl, h11, HV11, hn11, hE1⟩; replace x0 := x0.ext hE1; replace x0_0 := x0.cell (i := 0) rfl; replace x0_1 := x0.cell (i := 1) rfl; replace p1 := p1.ext hE1; replace p1_0 := p1.cell (i := 0) rfl; replace p1_1 := p1.cell (i := 1) rfl; replace p1_2 := p1.cell (i := 2) rfl; replace s := s.ext hE1; replace s_0 := s.cell (i := 0) rfl; replace s_1 := s.cell (i := 1) rfl; replace s_f0 := s.free 0; replace s_f1 := s.free 1; replace s_lt := s.lt; replace hd8 := cellE hE1 hd8; replace hd9 := cellE hE1 hd9; replace h11 := h11.mono hsz (Kept.refl _ _); replace hsz := Nat.le_trans hsz hE1.size; replace hE0 := Ext.trans hE0 hE1)
         go_wp2_with fail
         refine hKc.out _ _ ⟨hd8, hd9, x0_0, x0_1, p1_0, p1_1, p1_2⟩ (fun hHeld => ?_)
         clear hKc Kc
         try simp only [Act.put, List.setIfInBounds_toArray, List.set_cons_zero, List.set_cons_succ]
         refine stepD 9 rfl (by kernel_rfl) (fun Kc hKc => ?_)
         refine Eq.mpr (if_pos (by kernel_rfl)) ?_
         go_simp
         refine hKc.out _ _ (by go_keep) (fun hHeld => ?_)
         clear hKc Kc
         try simp only [Act.put, List.setIfInBounds_toArray, List.set_cons_zero, List.set_cons_succ]
         refine wpAnyH_done (by kernel_rfl) ?_ _
         refine NoPanic.normal ?_
         replace s := s.set 0 (.bool s11)
         replace s := s.set 1 (.slice a11 n11 c11)
         have hKW6 : ∀ bB_ : Nat, wo.heap.size < bB_ → Kept bB_ w1 (((w1).setCell ⟨wo.heap.size, 0, none⟩ (.bool s11)).setCell ⟨wo.heap.size, 1, none⟩ (.slice a11 n11 c11)) := fun bB_ h0 => (Kept.trans (kept_set _ _ _ h0) (kept_set _ _ _ h0))
         have hzW6 : w1.heap.size ≤ (((w1).setCell ⟨wo.heap.size, 0, none⟩ (.bool s11)).setCell ⟨wo.heap.size, 1, none⟩ (.slice a11 n11 c11)).heap.size := by simp only [World.setCell, Array.size_modify]; exact Nat.le_refl _
         have hSW6 : ∀ (nB_ : Nat) (uB_ : World), nB_ ≤ wo.heap.size → Below nB_ uB_ w1 → Below nB_ uB_ (((w1).setCell ⟨wo.heap.size, 0, none⟩ (.bool s11)).setCell ⟨wo.heap.size, 1, none⟩ (.slice a11 n11 c11)) := fun nB_ uB_ h0 hb => (Below.setCell (Below.setCell hb (p := ⟨wo.heap.size, 0, none⟩) h0 (.bool s11)) (p := ⟨wo.heap.size, 1, none⟩) h0 (.slice a11 n11 c11))
         replace s : Blk (((w1).setCell ⟨wo.heap.size, 0, none⟩ (.bool s11)).setCell ⟨wo.heap.size, 1, none⟩ (.slice a11 n11 c11)) (wo.heap.size) 25 #[.bool s11, .slice a11 n11 c11] := s
         generalize hgW6 : ((w1).setCell ⟨wo.heap.size, 0, none⟩ (.bool s11)).setCell ⟨wo.heap.size, 1, none⟩ (.slice a11 n11 c11) = W6 at *
         clear hgW6
         replace s_0 := s.cell (i := 0) rfl
         replace s_1 := s.cell (i := 1) rfl
         replace s_f0 := s.free 0
         replace s_f1 := s.free 1
         replace s_lt := s.lt
         have h12 := h11.mono (Nat.le_refl _) (hKW6 _ (by omega))
         have HE6 := Lib.hid (hSW6 _ _ (Nat.le_refl _) hE0)
         have hs6 : Ws.heap.size ≤ W6.heap.size := Nat.le_trans hsz hzW6
         have H12 : Hid (∃ sx au nu cu, Blk W6 wo.heap.size 25 #[.bool sx, .slice au nu cu] ∧ NatS Ws.heap.size W6 au nu cu (limbs (sumZ (k + 1) F).natAbs) ∧ Hid (ival sx (limbs (sumZ (k + 1) F).natAbs) = sumZ (k + 1) F) ∧ nu ≤ K + K + (k + 1)) := Lib.hid ⟨s11, a11, n11, c11, s, by rw [HSS2.out]; exact h12, by rw [HSS2.out]; exact HV11, by omega⟩
         clear h12 hSW6 hKW6 hzW6 hE0 hE1 h9 h11 hx h7 h8 hd8 hd9 p1 p1_0 p1_1 p1_2 x0 x0_0 x0_1 s s_0 s_1 s_f0 s_f1 s_lt HVx
         go_wp2_with fail
         go_roundg (n5 - (k + 1))
         case measure => omega
         case rel => exact ⟨k + 1, by omega, rfl, by go_num, H12, HE6, hs6⟩
       ·obtain rfl : k = n5 := by omega
        replace s_0 := s.cell (i := 0) rfl
        replace s_1 := s.cell (i := 1) rfl
        obtain ⟨i0, hi0, hz0, hz1, hz2⟩ := info_parts info_int
        have hEA : Ext wr (wr.alloc (Obj.cells #[.bool sx, .slice au nu cu] 25)) := (Below.refl _ _).alloc (Nat.le_refl _) _
        have hEB := Ext.trans HEk.out hEA
        have HG9 := Lib.hid (HG0.out.keep hEB.size (fun b _ h2 => hEB.block b h2))
        have hbl := Blk.new wr 25 #[.bool sx, .slice au nu cu]
        have hnews : ∀ (j' : Nat) (u : Value), [Value.bool sx, .slice au nu cu][j']? = some u → (wr.alloc (Obj.cells #[.bool sx, .slice au nu cu] 25)).cell? ((⟨wr.heap.size, 0, none⟩ : Addr).add j') = some u := fun j' u hu => by
         match j', hu with
         | 0, hu => cases hu; exact hbl.cell (i := 0) rfl
         | 1, hu => cases hu; exact hbl.cell (i := 1) rfl
         | k + 2, hu => simp at hu
        have HN9 : Hid ((rIntK (K + K + k)).ok Ws.heap.size (wr.alloc (Obj.cells #[.bool sx, .slice au nu cu] 25)) [.bool sx, .slice au nu cu] (sumZ k F)) := Lib.hid ⟨sx, au, nu, cu, _, rfl, hx.ext (Nat.le_refl _) hEA, HVx.out, hnx⟩
        have HE9 := Lib.hid (Ext.trans HE.out hEB)
        have HHX := Lib.hid hx
        have hgB : w4.heap.size ≤ Ws.heap.size := by omega
        have hgL : ∀ g, _ → g < Ws.heap.size := fun g e => Nat.lt_trans (hlt g e).2 hsl
        have HGL := Lib.hid hgL
        have HLT := Lib.hid hlt
        clear hEB hEA hbl hx HSk hgL hlt
        go_wp2_with (at_builtin; refine wpList_append_own_at _ rfl _ _ 30 rfl w4.heap.size 25 i0 _ 2 32 under_ints hi0 hz0 hz1 hz2 rfl (by decide) _ _ _ rfl HG9.out.own ⟨wr.heap.size, 0, none⟩ 1 1 [.bool sx, .slice au nu cu] rfl rfl hnews (by simp [Value.oneCell']) (by unfold maxLen; omega) (by omega) (by exact HE9.out.size) ?_; intro v' w1 hown' hgrow _ hat)
        go_roundg (n2 - (i + 1))
        case measure => omega
        case rel =>
         refine ⟨i + 1, by omega, rfl, by go_num, Lib.hid ⟨css ++ [[.bool sx, .slice au nu cu]], ?_⟩, Lib.hid (HE9.out.grown hgrow HE9.out.size (fun k e => (HLT.out k e).1))⟩
         rw [List.range_succ, List.map_append]
         show Grp _ _ _ _ _ _ (_ ++ [applyZ x.2 y.2 k i]) _
         rw [HFA.out]
         exact HG9.out.add hown' hgrow hat (x := sumZ k F) HN9.out hgB HGL.out
     ·obtain rfl : i = n2 := by omega
      obtain ⟨css, hG⟩ := HG.out
      obtain ⟨av, cv, rfl, hsl⟩ := hG.sl
      have HSL := Lib.hid (Sl.zero hsl)
      have p0 := HP0.out.ext HE.out
      have p1 := HP1.out.ext HE.out
      have r0 := HR0.out.ext HE.out
      skip
      skip
      skip
      replace p0_0 := p0.cell (i := 0) rfl
      replace p0_1 := p0.cell (i := 1) rfl
      replace p0_2 := p0.cell (i := 2) rfl
      replace p1_0 := p1.cell (i := 0) rfl
      replace p1_1 := p1.cell (i := 1) rfl
      replace p1_2 := p1.cell (i := 2) rfl
      replace r0_0 := r0.cell (i := 0) rfl
      replace r0_1 := r0.cell (i := 1) rfl
      replace r0_2 := r0.cell (i := 2) rfl
      replace r0_f0 := r0.free 0
      replace r0_f1 := r0.free 1
      replace r0_f2 := r0.free 2
      replace r0_lt := r0.lt
      have HEr := Lib.hid (Ext.trans HE4.out HE.out)
      clear hG hsl
      go_wp2_with fail
      (with_reducible refine (zmul_b b b' wr a a' n c n' c' lx ly x.1 y.1 (GX1.out.ext (Nat.le_refl _) HE.out) (GY1.out.ext (Nat.le_refl _) HE.out) gx3 gy3 (by omega) GX2 GY2 DD HDD).mono ?_)
      rintro e w8 ⟨s12, a12, n12, c12, rfl, h12, HV12, hn12, hE8⟩
      replace r0 := r0.ext hE8; replace r0_0 := r0.cell (i := 0) rfl; replace r0_1 := r0.cell (i := 1) rfl; replace r0_2 := r0.cell (i := 2) rfl; replace r0_f0 := r0.free 0; replace r0_f1 := r0.free 1; replace r0_f2 := r0.free 2; replace r0_lt := r0.lt
      have hr8 := r0_lt
      have HSL8 := Lib.hid (HSL.out.ext (Nat.le_refl _) hE8)
      have HE8 := Lib.hid (Ext.trans HEr.out hE8)
      clear hE8 p0 p0_0 p0_1 p0_2 p1 p1_0 p1_1 p1_2
      go_wp2_with fail
      (with_reducible refine (vec_nrm (K + K + m) (by omega) w8 s12 a12 n12 c12 _ (h12.mono (Nat.zero_le _) (Kept.refl _ _)) (by omega) DD HV12 hdd0 av i cv _ HSL8.out hn2 qs HQE2).mono ?_)
      rintro e w9 ⟨a13, n13, c13, a14, n14, c14, rfl, h13, h14, hE9⟩
      replace r0 := r0.ext hE9; replace r0_0 := r0.cell (i := 0) rfl; replace r0_1 := r0.cell (i := 1) rfl; replace r0_2 := r0.cell (i := 2) rfl; replace r0_f0 := r0.free 0; replace r0_f1 := r0.free 1; replace r0_f2 := r0.free 2; replace r0_lt := r0.lt
      have hsz8 := HE8.out.size
      have HF : Hid (RVAns w 0 qs (.returned (.tuple #[.agg #[.bool false, .slice a13 n13 c13, .slice a14 n14 c14], .int .i64 0])) (((w9.setCell ⟨w.heap.size + 1 + 1, 0, none⟩ (.bool false)).setCell ⟨w.heap.size + 1 + 1, 1, none⟩ (.slice a13 n13 c13)).setCell ⟨w.heap.size + 1 + 1, 2, none⟩ (.slice a14 n14 c14))) := Lib.hid ⟨false, a13, n13, c13, a14, n14, c14, rfl, ext_set3 (Ext.trans HE8.out hE9) _ _ _ (by omega), fun h => absurd rfl h, fun _ => ⟨rfl, (h13.mono (Nat.le_refl _) (kept_set3 _ _ _ _ (by omega))).mono (by omega) (Kept.refl _ _), (h14.mono (Nat.le_refl _) (kept_set3 _ _ _ _ (by omega))).mono (by omega) (Kept.refl _ _)⟩⟩
      clear h12 h13 h14 hE9
      have r02 : Blk ((((w9).setCell ⟨w.heap.size + 1 + 1, 0, none⟩ (.bool false)).setCell ⟨w.heap.size + 1 + 1, 1, none⟩ (.slice a13 n13 c13)).setCell ⟨w.heap.size + 1 + 1, 2, none⟩ (.slice a14 n14 c14)) _ _ #[.bool false, .slice a13 n13 c13, .slice a14 n14 c14] := (((r0).set 0 (.bool false)).set 1 (.slice a13 n13 c13)).set 2 (.slice a14 n14 c14)
      have hr00 := r02.cell (i := 0) rfl
      have hr01 := r02.cell (i := 1) rfl
      have hr02 := r02.cell (i := 2) rfl
      go_wp2_with fail
      exact bodyPost_ret (v := .tuple #[.agg #[.bool false, .slice a13 n13 c13, .slice a14 n14 c14], .int .i64 0]) (by simp [results, Tryz.results54, go_sem, hr00, hr01, hr02]) rfl HF.out
   ·obtain rfl : s = 2 := by rw [HSS.out, if_neg (by decide), if_neg hy0, if_pos hmn]
    have hne : ((m : Int) != (n2' : Int)) = true := by simp; omega
    clear hy0 hmn
    have HF : Hid (RVAns w 2 qs (.returned (.tuple #[.agg #[.bool false, .slice none 0 0, .slice none 0 0], .int .i64 2])) (((w4.setCell ⟨w.heap.size + 1 + 1, 0, none⟩ (.bool false)).setCell ⟨w.heap.size + 1 + 1, 1, none⟩ (.slice none 0 0)).setCell ⟨w.heap.size + 1 + 1, 2, none⟩ (.slice none 0 0))) := Lib.hid ⟨false, none, 0, 0, none, 0, 0, rfl, ext_set3 hE0 _ _ _ (by omega), fun _ => ⟨rfl, rfl, rfl, rfl, rfl, rfl, rfl⟩, fun h => absurd h (by decide)⟩
    clear hE0 h h'
    have r02 : Blk ((((w4).setCell ⟨w.heap.size + 1 + 1, 0, none⟩ (.bool false)).setCell ⟨w.heap.size + 1 + 1, 1, none⟩ (.slice none 0 0)).setCell ⟨w.heap.size + 1 + 1, 2, none⟩ (.slice none 0 0)) _ _ #[.bool false, .slice none 0 0, .slice none 0 0] := (((r0).set 0 (.bool false)).set 1 (.slice none 0 0)).set 2 (.slice none 0 0)
    have hr00 := r02.cell (i := 0) rfl
    have hr01 := r02.cell (i := 1) rfl
    have hr02 := r02.cell (i := 2) rfl
    go_wp2_with fail
    exact bodyPost_ret (v := .tuple #[.agg #[.bool false, .slice none 0 0, .slice none 0 0], .int .i64 2]) (by simp [results, Tryz.results54, go_sem, hr00, hr01, hr02]) rfl HF.out
 ·have hne : (s0 != 0) = true := by simpa using h0
  obtain rfl : s = s0 := by rw [HSS.out, if_pos h0]
  have HN0 := Lib.hid h0
  clear h0
  have HF : Hid (RVAns w s qs (.returned (.tuple #[.agg #[.bool false, .slice none 0 0, .slice none 0 0], .int .i64 s])) (((w1.setCell ⟨w.heap.size + 1 + 1, 0, none⟩ (.bool false)).setCell ⟨w.heap.size + 1 + 1, 1, none⟩ (.slice none 0 0)).setCell ⟨w.heap.size + 1 + 1, 2, none⟩ (.slice none 0 0))) := Lib.hid ⟨false, none, 0, 0, none, 0, 0, rfl, ext_set3 hE0 _ _ _ (by omega), fun _ => ⟨rfl, rfl, rfl, rfl, rfl, rfl, rfl⟩, fun h => absurd h HN0.out⟩
  clear hE0 h h'
  have r02 : Blk ((((w1).setCell ⟨w.heap.size + 1 + 1, 0, none⟩ (.bool false)).setCell ⟨w.heap.size + 1 + 1, 1, none⟩ (.slice none 0 0)).setCell ⟨w.heap.size + 1 + 1, 2, none⟩ (.slice none 0 0)) _ _ #[.bool false, .slice none 0 0, .slice none 0 0] := (((r0).set 0 (.bool false)).set 1 (.slice none 0 0)).set 2 (.slice none 0 0)
  have hr00 := r02.cell (i := 0) rfl
  have hr01 := r02.cell (i := 1) rfl
  have hr02 := r02.cell (i := 2) rfl
  go_wp2_with fail
  exact bodyPost_ret (v := .tuple #[.agg #[.bool false, .slice none 0 0, .slice none 0 0], .int .i64 s]) (by simp [results, Tryz.results54, go_sem, hr00, hr01, hr02]) rfl HF.out
end Go.Proofs.YtbhenelehhiakaaGreat
namespace Go.Proofs.YtbhenelehhiakaaGreat
open Go.RowKit
def AwayR (g : Nat) (w : World) (K B : Nat) (a : Option Addr) (n c : Nat) (qs : List Rat) : Prop := ∃ v : World, v.heap.size ≤ w.heap.size ∧ (g < B ∨ v.heap.size ≤ g) ∧ Sl (rRatK K) B v a n c qs ∧ ∀ b, B ≤ b → b < v.heap.size → w.heap[b]? = v.heap[b]?
theorem AwayR.ext {g : Nat} {w w' : World} {K B : Nat} {a : Option Addr} {n c : Nat} {qs : List Rat} (h : AwayR g w K B a n c qs) (hE : Ext w w') : AwayR g w' K B a n c qs := by
 obtain ⟨v, h1, h2, h3, h4⟩ := h
 exact ⟨v, Nat.le_trans h1 hE.size, h2, h3, fun b g1 g2 => (hE.block b (Nat.lt_of_lt_of_le g2 h1)).trans (h4 b g1 g2)⟩
theorem AwayR.set {g : Nat} {w : World} {K B : Nat} {a : Option Addr} {n c : Nat} {qs : List Rat} (h : AwayR g w K B a n c qs) (vs : List Value) (off : Nat) : AwayR g (stores w g off vs) K B a n c qs := by
 obtain ⟨v, h1, h2, h3, h4⟩ := h
 have hgr := grownBy_stores (g := g) vs w off
 exact ⟨v, Nat.le_trans h1 hgr.size, h2, h3, fun b g1 g2 => (hgr.block b (Nat.lt_of_lt_of_le g2 h1) (fun e => by cases e; omega)).trans (h4 b g1 g2)⟩
theorem awayR_old {K B g : Nat} {w w' : World} {a : Option Addr} {n c : Nat} {qs : List Rat} (h : Sl (rRatK K) B w a n c qs) (hE : Ext w w') (hF : w.heap.size ≤ g) : AwayR g w' K B a n c qs :=
 ⟨w, hE.size, .inr hF, h, fun b _ hb => hE.block b hb⟩
theorem awayR_new {K B g : Nat} {w : World} {a : Option Addr} {n c : Nat} {qs : List Rat} (h : Sl (rRatK K) B w a n c qs) (hF : g < B) : AwayR g w K B a n c qs :=
 ⟨w, Nat.le_refl _, .inl hF, h, fun _ _ _ => rfl⟩
theorem AwayR.size {g : Nat} {w : World} {K B : Nat} {a : Option Addr} {n c : Nat} {qs : List Rat} (h : AwayR g w K B a n c qs) : qs.length = n ∧ n ≤ c ∧ c ≤ 9223372036854775807 := by
 obtain ⟨v, _, _, h3, _⟩ := h
 exact ⟨h3.len, h3.cap, h3.most⟩
theorem AwayR.ent {K B g : Nat} {w : World} {a : Option Addr} {n c : Nat} {qs : List Rat} (h : AwayR g w K B a n c qs) {k : Nat} (hk : k < n) : ∃ b o s1 a1 n1 c1 s2 a2 n2 c2, a = some ⟨b, o, none⟩ ∧ b < w.heap.size ∧ b ≠ g ∧
  w.cell? ⟨b, o + k * 4, none⟩ = some (.bool s1) ∧ w.cell? ⟨b, o + k * 4 + 1, none⟩ = some (.slice a1 n1 c1) ∧ w.cell? ⟨b, o + k * 4 + 2, none⟩ = some (.bool s2) ∧ w.cell? ⟨b, o + k * 4 + 3, none⟩ = some (.slice a2 n2 c2) ∧ RatS K w s1 a1 n1 c1 s2 a2 n2 c2 ((qs[k]?).getD 0) := by
 obtain ⟨v, hs, hF, h, hb⟩ := h
 have hkl : k < qs.length := by rw [h.len]; exact hk
 obtain ⟨b7, o7, cs7, ha8, ⟨s7, a9, n9, c9, s8, a10, n10, c10, rfl, l, l2, g1, g2, g3⟩, hc7⟩ := h.at_ k hkl
 have e0 := hc7 0 (by simp)
 have hkp : Kept B v w := kept_int fun b hb1 hb2 => hb b hb1 hb2
 have he : (qs[k]?).getD 0 = qs[k] := by rw [List.getElem?_eq_getElem hkl]; rfl
 rw [he]
 refine ⟨b7, o7, s7, a9, n9, c9, s8, a10, n10, c10, ha8, Nat.lt_of_lt_of_le (cel_lt e0) hs, ?_, (hkp _ _ _ e0).cell, (hkp _ _ _ (hc7 1 (by simp))).cell, (hkp _ _ _ (hc7 2 (by simp))).cell, (hkp _ _ _ (hc7 3 (by simp))).cell, l, l2, Sl.zero (g1.mono (Nat.le_refl _) hkp), Sl.zero (g2.mono (Nat.le_refl _) hkp), g3⟩
 have q4 := cel_lt e0
 have q5 := e0.ge
 omega
theorem Sl.rowAt {K B : Nat} {w : World} {g n c : Nat} {xs : List Rat} (h : Sl (rRatK K) B w (some ⟨g, 0, none⟩) n c xs) {k : Nat} (hk : k < n) : ∃ s1 a1 n1 c1 s2 a2 n2 c2,
  (w.cell? ⟨g, k * 4, none⟩ = some (.bool s1) ∧ w.cell? ⟨g, k * 4 + 1, none⟩ = some (.slice a1 n1 c1) ∧ w.cell? ⟨g, k * 4 + 2, none⟩ = some (.bool s2) ∧ w.cell? ⟨g, k * 4 + 3, none⟩ = some (.slice a2 n2 c2)) ∧ (w.frozen? ⟨g, k * 4, none⟩ = false ∧ w.frozen? ⟨g, k * 4 + 1, none⟩ = false ∧ w.frozen? ⟨g, k * 4 + 2, none⟩ = false ∧ w.frozen? ⟨g, k * 4 + 3, none⟩ = false) ∧ RatS K w s1 a1 n1 c1 s2 a2 n2 c2 ((xs[k]?).getD 0) := by
 have hkl : k < xs.length := by rw [h.len]; exact hk
 obtain ⟨bk, ok, csk, hgk, hqk, hck⟩ := h.at_ k hkl
 cases hgk
 obtain ⟨s1, a1, n1, c1, s2, a2, n2, c2, rfl, l, l2, g1, g2, g3⟩ := hqk
 have he : (xs[k]?).getD 0 = xs[k] := by rw [List.getElem?_eq_getElem hkl]; rfl
 rw [he]
 have key : ∀ j (hj : j < 4), Cel B w g (k * 4 + j) ([Value.bool s1, .slice a1 n1 c1, .bool s2, .slice a2 n2 c2][j]'(by simpa using hj)) := fun j hj => by
  have := hck j (by simpa using hj)
  rwa [Nat.zero_add] at this
 have k0 := key 0 (by omega)
 have k1 := key 1 (by omega)
 have k2 := key 2 (by omega)
 have k3 := key 3 (by omega)
 exact ⟨s1, a1, n1, c1, s2, a2, n2, c2, ⟨k0.cell, k1.cell, k2.cell, k3.cell⟩, ⟨k0.free, k1.free, k2.free, k3.free⟩, l, l2, Sl.zero g1, Sl.zero g2, g3⟩
def partV (G X : Nat → Rat) (n k : Nat) : List Rat := (List.range n).map fun i => if i < k then G i else X i
theorem partV_set (G X : Nat → Rat) (n k : Nat) : (partV G X n k).set k (G k) = partV G X n (k + 1) := by
 unfold partV
 refine List.ext_getElem (by simp) fun t h1 h2 => ?_
 by_cases h : t = k
 ·subst h
  rw [List.getElem_set_self, List.getElem_map, List.getElem_range, if_pos (by omega)]
 ·rw [List.getElem_set_ne (by omega), List.getElem_map, List.getElem_range, List.getElem_map, List.getElem_range]
  by_cases h2 : t < k
  ·rw [if_pos h2, if_pos (by omega)]
  ·rw [if_neg h2, if_neg (by omega)]
theorem partV_zero (G X : Nat → Rat) (n : Nat) : partV G X n 0 = (List.range n).map X := by
 unfold partV
 exact List.map_congr_left fun i _ => if_neg (by omega)
theorem partV_all (G X : Nat → Rat) (n : Nat) : partV G X n n = (List.range n).map G := by
 unfold partV
 exact List.map_congr_left fun i hi => if_pos (List.mem_range.1 hi)
theorem partV_at (G X : Nat → Rat) (n k : Nat) (hk : k < n) : ((partV G X n k)[k]?).getD 0 = X k := by
 unfold partV
 rw [List.getElem?_map, List.getElem?_range hk]
 show (if k < k then G k else X k) = _
 rw [if_neg (by omega)]
theorem range_get (xs : List Rat) : (List.range xs.length).map (fun i => (xs[i]?).getD 0) = xs := by
 refine List.ext_getElem (by simp) fun t h1 h2 => ?_
 rw [List.getElem_map, List.getElem_range, List.getElem?_eq_getElem h2]
 rfl
theorem vadd_nl (x y dx dy : Int) (c : Rat) (hx : dx ≠ 0) (hy : dy ≠ 0) {K : Nat} (h1 : nl x.natAbs ≤ K) (h2 : nl y.natAbs ≤ K) (h3 : nl dx.natAbs ≤ K) (h4 : nl dy.natAbs ≤ K) (h5 : nl c.num.natAbs ≤ K) (h6 : nl c.den ≤ K) : nl (ratv x dx + c * ratv y dy).num.natAbs ≤ 3 * K + 1 ∧ nl (ratv x dx + c * ratv y dy).den ≤ 3 * K + 1 := by
 rw [← vadd_frac x y dx dy c hx hy]
 have hc : (c.den : Int) ≠ 0 := by have := c.den_nz; omega
 have g1 := nl_mul dy.natAbs c.den
 have g2 := nl_mul x.natAbs (dy.natAbs * c.den)
 have g3 := nl_mul dx.natAbs c.num.natAbs
 have g4 := nl_mul y.natAbs (dx.natAbs * c.num.natAbs)
 have g5 := nl_addI2 (x * (dy * (c.den : Int))) (y * (dx * c.num))
 have g6 := nl_mul dx.natAbs (dy.natAbs * c.den)
 simp only [Int.natAbs_mul, Int.natAbs_natCast] at g5
 refine nl_ratv (Int.mul_ne_zero hx (Int.mul_ne_zero hy hc)) ?_ ?_
 ·omega
 ·simp only [Int.natAbs_mul, Int.natAbs_natCast]; omega
theorem vaddQ_den (xs ys : List Int) (dx dy : Int) (c : Rat) (hx : dx ≠ 0) (hy : dy ≠ 0) {K : Nat} (h3 : nl dx.natAbs ≤ K) (h4 : nl dy.natAbs ≤ K) (h6 : nl c.den ≤ K) : nl (comDen (vaddQ (frV dx xs) (frV dy ys) c)) ≤ 3 * K := by
 rw [← vadd_eq xs ys dx dy c hx hy]
 have hc : (c.den : Int) ≠ 0 := by have := c.den_nz; omega
 have g1 := nl_mul dy.natAbs c.den
 have g6 := nl_mul dx.natAbs (dy.natAbs * c.den)
 refine comDen_frV _ (Int.mul_ne_zero hx (Int.mul_ne_zero hy hc)) _ _ ?_
 simp only [Int.natAbs_mul, Int.natAbs_natCast]
 omega
end Go.Proofs.YtbhenelehhiakaaGreat
namespace Go.Proofs.YtbhenelehhiakaaGreat
open Go.RowKit
theorem r11Entries_n (K : Nat) (hK : K ≤ 549755813888) (w : World) (b : Bool) (a a2 : Option Addr) (n c n2 c2 : Nat) (d : Int) (xs : List Int) (h : VecS K w b a n c a2 n2 c2 d xs) (hd0 : d ≠ 0) (hn2 : n2 ≤ 1099511627776) (X : List Rat) (hX : Hid (frV d xs = X)) :
  Calls Tryz.prog 73 #[.agg #[.bool b, .slice a n c, .slice a2 n2 c2]] w (fun e w' => ∃ g, e = .returned (.slice (some ⟨g, 0, none⟩) n2 n2) ∧ Sl (rRatK K) w.heap.size w' (some ⟨g, 0, none⟩) n2 n2 X ∧ w.heap.size ≤ g ∧ g < w'.heap.size ∧ Ext w w') := by
 refine (r11Entries_any K hK w b a a2 n c n2 c2 d xs h hd0 hn2).mono ?_
 rintro e w' ⟨g, m, rfl, h1, h2, h3, hE⟩
 have hm : m = n2 := by rw [← h1.len, ← h.len]; simp [frV]
 subst hm
 rw [hX.out] at h1
 exact ⟨g, rfl, h1, h2, h3, hE⟩
theorem ratS_nl {K : Nat} {w : World} {b b2 : Bool} {a a2 : Option Addr} {n c n2 c2 : Nat} {q : Rat} (h : RatS K w b a n c b2 a2 n2 c2 q) : nl q.num.natAbs ≤ K ∧ nl q.den ≤ K := by
 obtain ⟨l, l2, h1, h2, h3, rfl, h4, h5⟩ := h
 exact nl_ratv h3 (Nat.le_trans (nl_of h1 (Lib.hid rfl)) h4) (Nat.le_trans (nl_of h2 (Lib.hid rfl)) h5)
theorem ratv_mul_nl {K K2 : Nat} {q : Rat} {y d : Int} (hd : d ≠ 0) (h1 : nl q.num.natAbs ≤ K ∧ nl q.den ≤ K) (hy : nl y.natAbs ≤ K2) (h2 : nl d.natAbs ≤ K2) : nl (q * ratv y d).num.natAbs ≤ K + K2 ∧ nl (q * ratv y d).den ≤ K + K2 := by
 have e : q * ratv y d = ratv (q.num * y) ((q.den : Int) * d) := by rw [← ratv_mul, ratv_self]
 rw [e]
 have hc : (q.den : Int) ≠ 0 := by have := q.den_nz; omega
 have g1 := nl_mul q.num.natAbs y.natAbs
 have g2 := nl_mul q.den d.natAbs
 refine nl_ratv (Int.mul_ne_zero hc hd) ?_ ?_
 ·rw [Int.natAbs_mul]; omega
 ·rw [Int.natAbs_mul, Int.natAbs_natCast]; omega
theorem frV_len (d : Int) (xs : List Int) : (frV d xs).length = xs.length := by simp [frV]
theorem getD_nl {K B : Nat} {w : World} {a : Option Addr} {n c : Nat} {zs : List Int} (h : Sl (rIntK K) B w a n c zs) (i : Nat) : nl ((zs[i]?).getD 0).natAbs ≤ K := by
 by_cases hi : i < zs.length
 ·obtain ⟨bk, ok, csk, hgk, ⟨b, a, n, c, l, e, g1, g2, g3⟩, hck⟩ := h.at_ i hi
  rw [List.getElem?_eq_getElem hi]
  exact Nat.le_trans (nl_of g1 (Lib.hid g2)) g3
 ·rw [List.getElem?_eq_none (by omega)]
  show nl (0 : Int).natAbs ≤ K
  rw [Int.natAbs_zero, nl_zero]; omega
set_option maxRecDepth 100000 in
set_option maxHeartbeats 16000000 in
theorem r11VecAdd_any (K : Nat) (hK : 9 * K + 8 ≤ 549755813888) (w : World) (b : Bool) (a a2 : Option Addr) (n c n2 c2 : Nat) (d : Int) (xs : List Int) (h : VecS K w b a n c a2 n2 c2 d xs) (b' : Bool) (a' a2' : Option Addr) (n' c' c2' : Nat) (d' : Int) (ys : List Int) (h' : VecS K w b' a' n' c' a2' n2 c2' d' ys) (hd0 : d ≠ 0) (hd1 : d' ≠ 0) (bx by1 : Bool) (ax ay : Option Addr) (nx cx ny cy : Nat) (q : Rat) (hq : RatS K w bx ax nx cx by1 ay ny cy q) (hn2 : n2 ≤ 1099511627776) (qs : List Rat) (hqs : Hid (vaddQ (frV d xs) (frV d' ys) q = qs)) :
  Calls Tryz.prog 56 #[.agg #[.bool b, .slice a n c, .slice a2 n2 c2], .agg #[.bool b', .slice a' n' c', .slice a2' n2 c2'], .agg #[.bool bx, .slice ax nx cx, .bool by1, .slice ay ny cy]] w (RVRefN w qs) := by
 obtain ⟨X, hX⟩ : ∃ X, frV d xs = X := ⟨_, rfl⟩
 obtain ⟨Y, hY⟩ : ∃ X, frV d' ys = X := ⟨_, rfl⟩
 have HX := Lib.hid hX
 have HY := Lib.hid hY
 obtain ⟨f, hf⟩ : ∃ f : Nat → Rat, f = fun i => (X[i]?).getD 0 := ⟨_, rfl⟩
 obtain ⟨G, hG⟩ : ∃ G : Nat → Rat, G = fun i => f i + q * (Y[i]?).getD 0 := ⟨_, rfl⟩
 have hXn : X.length = n2 := by rw [← hX, frV_len, h.len]
 have HQ : Hid ((List.range n2).map G = qs) := Lib.hid (by rw [← hqs.out, hX, hY, hG, hf]; unfold vaddQ; rw [hXn])
 have HF0 : Hid ((List.range n2).map f = X) := Lib.hid (by rw [← hXn, hf]; exact range_get X)
 have hqK := ratS_nl hq
 obtain ⟨l0, h1, h2, h3, h4⟩ := h
 obtain ⟨l0', h1', h2', h3', h4'⟩ := h'
 have hdK : nl d.natAbs ≤ K := Nat.le_trans (nl_of h1 (Lib.hid h2)) h3
 have hdK' : nl d'.natAbs ≤ K := Nat.le_trans (nl_of h1' (Lib.hid h2')) h3'
 have HPB : Hid (∀ i, nl (q * (Y[i]?).getD 0).num.natAbs ≤ K + K ∧ nl (q * (Y[i]?).getD 0).den ≤ K + K) := Lib.hid (fun i => by rw [← hY, frV_get]; exact ratv_mul_nl hd1 hqK (getD_nl h4' i) hdK')
 have HGK : Hid (∀ i, nl (G i).num.natAbs ≤ 3 * K + 1 ∧ nl (G i).den ≤ 3 * K + 1) := Lib.hid (fun i => by
  have e : G i = ratv ((xs[i]?).getD 0) d + q * ratv ((ys[i]?).getD 0) d' := by rw [hG, hf, ← hX, ← hY]; show ((frV d xs)[i]?).getD 0 + q * ((frV d' ys)[i]?).getD 0 = _; rw [frV_get, frV_get]
  rw [e]; exact vadd_nl _ _ _ _ _ hd0 hd1 (getD_nl h4 i) (getD_nl h4' i) hdK hdK' hqK.1 hqK.2)
 have HCD : Hid (nl (comDen qs) ≤ 3 * K) := Lib.hid (by rw [← hqs.out]; exact vaddQ_den _ _ _ _ _ hd0 hd1 hdK hdK' hqK.2)
 have hA : VecS K w b a n c a2 n2 c2 d xs := ⟨l0, h1, h2, h3, h4⟩
 have hB : VecS K w b' a' n' c' a2' n2 c2' d' ys := ⟨l0', h1', h2', h3', h4'⟩
 have HG : Hid (∀ i, f i + q * (Y[i]?).getD 0 = G i) := Lib.hid (fun i => by rw [hG])
 clear hX hY hG hf h1 h2 h3 h4 h1' h2' h3' h4' hqK hdK hdK' hXn
 go_enter Tryz.func56, Tryz.ntmps56
 go_upto_region 1 with (fail)
 have p0 := Blk.new w 32 #[.bool b, .slice a n c, .slice a2 n2 c2]
 have p1 := Blk.new (w.alloc (Obj.cells #[.bool b, .slice a n c, .slice a2 n2 c2] 32)) 32 #[.bool b', .slice a' n' c', .slice a2' n2 c2']
 replace p0 := p0.ext ((Below.refl _ _).alloc (Nat.le_refl _) (Obj.cells #[.bool b', .slice a' n' c', .slice a2' n2 c2'] 32))
 have p2 := Blk.new ((w.alloc (Obj.cells #[.bool b, .slice a n c, .slice a2 n2 c2] 32)).alloc (Obj.cells #[.bool b', .slice a' n' c', .slice a2' n2 c2'] 32)) 75 #[.bool bx, .slice ax nx cx, .bool by1, .slice ay ny cy]
 replace p0 := p0.ext ((Below.refl _ _).alloc (Nat.le_refl _) (Obj.cells #[.bool bx, .slice ax nx cx, .bool by1, .slice ay ny cy] 75))
 replace p1 := p1.ext ((Below.refl _ _).alloc (Nat.le_refl _) (Obj.cells #[.bool bx, .slice ax nx cx, .bool by1, .slice ay ny cy] 75))
 have r0 := Blk.new (((w.alloc (Obj.cells #[.bool b, .slice a n c, .slice a2 n2 c2] 32)).alloc (Obj.cells #[.bool b', .slice a' n' c', .slice a2' n2 c2'] 32)).alloc (Obj.cells #[.bool bx, .slice ax nx cx, .bool by1, .slice ay ny cy] 75)) 32 #[.bool false, .slice none 0 0, .slice none 0 0]
 replace p0 := p0.ext ((Below.refl _ _).alloc (Nat.le_refl _) (Obj.cells #[.bool false, .slice none 0 0, .slice none 0 0] 32))
 replace p1 := p1.ext ((Below.refl _ _).alloc (Nat.le_refl _) (Obj.cells #[.bool false, .slice none 0 0, .slice none 0 0] 32))
 replace p2 := p2.ext ((Below.refl _ _).alloc (Nat.le_refl _) (Obj.cells #[.bool false, .slice none 0 0, .slice none 0 0] 32))
 have hEW : Ext w ((((w.alloc (Obj.cells #[.bool b, .slice a n c, .slice a2 n2 c2] 32)).alloc (Obj.cells #[.bool b', .slice a' n' c', .slice a2' n2 c2'] 32)).alloc (Obj.cells #[.bool bx, .slice ax nx cx, .bool by1, .slice ay ny cy] 75)).alloc (Obj.cells #[.bool false, .slice none 0 0, .slice none 0 0] 32)) := (((((Below.refl _ w).alloc (by simp) _).alloc (by simp) _).alloc (by simp; omega) _).alloc (by simp; omega) _)
 generalize hgW : (((w.alloc (Obj.cells #[.bool b, .slice a n c, .slice a2 n2 c2] 32)).alloc (Obj.cells #[.bool b', .slice a' n' c', .slice a2' n2 c2'] 32)).alloc (Obj.cells #[.bool bx, .slice ax nx cx, .bool by1, .slice ay ny cy] 75)).alloc (Obj.cells #[.bool false, .slice none 0 0, .slice none 0 0] 32) = W at *
 clear hgW
 simp only [World.size_alloc] at p1 p2 r0
 have p0_ne_p1 : ¬ w.heap.size = w.heap.size + 1 := by omega
 have p0_ne_p2 : ¬ w.heap.size = w.heap.size + 1 + 1 := by omega
 have p0_ne_r0 : ¬ w.heap.size = w.heap.size + 1 + 1 + 1 := by omega
 have p1_ne_p0 : ¬ w.heap.size + 1 = w.heap.size := by omega
 have p1_ne_p2 : ¬ w.heap.size + 1 = w.heap.size + 1 + 1 := by omega
 have p1_ne_r0 : ¬ w.heap.size + 1 = w.heap.size + 1 + 1 + 1 := by omega
 have p2_ne_p0 : ¬ w.heap.size + 1 + 1 = w.heap.size := by omega
 have p2_ne_p1 : ¬ w.heap.size + 1 + 1 = w.heap.size + 1 := by omega
 have p2_ne_r0 : ¬ w.heap.size + 1 + 1 = w.heap.size + 1 + 1 + 1 := by omega
 have r0_ne_p0 : ¬ w.heap.size + 1 + 1 + 1 = w.heap.size := by omega
 have r0_ne_p1 : ¬ w.heap.size + 1 + 1 + 1 = w.heap.size + 1 := by omega
 have r0_ne_p2 : ¬ w.heap.size + 1 + 1 + 1 = w.heap.size + 1 + 1 := by omega
 replace p0_0 := p0.cell (i := 0) rfl
 replace p0_1 := p0.cell (i := 1) rfl
 replace p0_2 := p0.cell (i := 2) rfl
 replace p1_0 := p1.cell (i := 0) rfl
 replace p1_1 := p1.cell (i := 1) rfl
 replace p1_2 := p1.cell (i := 2) rfl
 replace p2_0 := p2.cell (i := 0) rfl
 replace p2_1 := p2.cell (i := 1) rfl
 replace p2_2 := p2.cell (i := 2) rfl
 replace p2_3 := p2.cell (i := 3) rfl
 replace r0_0 := r0.cell (i := 0) rfl
 replace r0_1 := r0.cell (i := 1) rfl
 replace r0_2 := r0.cell (i := 2) rfl
 have hW : w.heap.size + 1 + 1 + 1 < W.heap.size := r0.lt
 have HR0 := Lib.hid r0
 have HP2 := Lib.hid p2
 have HEW := Lib.hid hEW
 go_cut [7, 8] (fun s5 s6 wx => ∃ (gx : Nat) (ay : Option Addr) (By : Nat), s5 = .slice (some ⟨gx, 0, none⟩) n2 n2 ∧ s6 = .slice ay n2 n2 ∧ Hid (Sl (rRatK (3 * K + 1)) W.heap.size wx (some ⟨gx, 0, none⟩) n2 n2 X) ∧ Hid (AwayR gx wx K By ay n2 n2 Y) ∧ Hid (Ext W wx) ∧ W.heap.size ≤ gx ∧ gx < wx.heap.size)
 case first =>
  have hEd : Ext W W.drew := (Below.refl _ _).drew
  replace p0 := p0.ext hEd; replace p0_0 := p0.cell (i := 0) rfl; replace p0_1 := p0.cell (i := 1) rfl; replace p0_2 := p0.cell (i := 2) rfl; replace p1 := p1.ext hEd; replace p1_0 := p1.cell (i := 0) rfl; replace p1_1 := p1.cell (i := 1) rfl; replace p1_2 := p1.cell (i := 2) rfl
  have hE0 := hEd
  have hsz : W.heap.size ≤ W.drew.heap.size := Nat.le_refl _
  go_region_held3 (fun w' => w'.cell? ⟨w.heap.size, 0, none⟩ = some (.bool b) ∧ w'.cell? ⟨w.heap.size, 1, none⟩ = some (.slice a n c) ∧ w'.cell? ⟨w.heap.size, 2, none⟩ = some (.slice a2 n2 c2) ∧ w'.cell? ⟨w.heap.size + 1, 0, none⟩ = some (.bool b') ∧ w'.cell? ⟨w.heap.size + 1, 1, none⟩ = some (.slice a' n' c') ∧ w'.cell? ⟨w.heap.size + 1, 2, none⟩ = some (.slice a2' n2 c2')) (first | exact ⟨p0_0, p0_1, p0_2, p1_0, p1_1, p1_2⟩ | go_keep)
   (first
   | (go_at_call 73; (with_reducible refine (r11Entries_n K (by omega) _ b a a2 n c n2 c2 d xs (hA.ext (Ext.trans HEW.out hE0)) hd0 hn2 X HX).mono ?_); rintro e w1 ⟨gx, rfl, hT, hg1, hg2, hE1⟩; replace hT := (hT.weakR (show K ≤ 3 * K + 1 by omega)).mono hsz (Kept.refl _ _); (try have hAw := awayR_old hyr hE1 hg1); replace hg1 := Nat.le_trans hsz hg1; replace p0 := p0.ext hE1; replace p0_0 := p0.cell (i := 0) rfl; replace p0_1 := p0.cell (i := 1) rfl; replace p0_2 := p0.cell (i := 2) rfl; replace p1 := p1.ext hE1; replace p1_0 := p1.cell (i := 0) rfl; replace p1_1 := p1.cell (i := 1) rfl; replace p1_2 := p1.cell (i := 2) rfl; replace hsz := Nat.le_trans hsz hE1.size; replace hE0 := Ext.trans hE0 hE1)
   | (go_at_call 73; (with_reducible refine (r11Entries_n K (by omega) _ b' a' a2' n' c' n2 c2' d' ys (hB.ext (Ext.trans HEW.out hE0)) hd1 hn2 Y HY).mono ?_); rintro e w1 ⟨gy, rfl, hyr, hh1, hh2, hE1⟩; (try have hAw := awayR_new hyr hg2); (try replace hT := hT.ext (Nat.le_refl _) hE1); (try replace hg2 := Nat.lt_of_lt_of_le hg2 hE1.size); replace p0 := p0.ext hE1; replace p0_0 := p0.cell (i := 0) rfl; replace p0_1 := p0.cell (i := 1) rfl; replace p0_2 := p0.cell (i := 2) rfl; replace p1 := p1.ext hE1; replace p1_0 := p1.cell (i := 0) rfl; replace p1_1 := p1.cell (i := 1) rfl; replace p1_2 := p1.cell (i := 2) rfl; replace hsz := Nat.le_trans hsz hE1.size; replace hE0 := Ext.trans hE0 hE1))
  all_goals
   have HT := Lib.hid hT
   have HAW := Lib.hid hAw
   have HE0 := Lib.hid hE0
   clear hT hAw hE0 hyr p0 p1 p2 r0 p0_0 p0_1 p0_2 p1_0 p1_1 p1_2 p2_0 p2_1 p2_2 p2_3 r0_0 r0_1 r0_2 hh1 hh2
   go_wp2_with fail
   go_meet
   exact ⟨gx, _, _, rfl, rfl, HT, HAW, HE0, hg1, hg2⟩
 case rest =>
  clear p0 p1 p2 r0 p0_0 p0_1 p0_2 p1_0 p1_1 p1_2 p2_0 p2_1 p2_2 p2_3 r0_0 r0_1 r0_2 hEW
  obtain ⟨gx, ayr, By, rfl, rfl, HT0, HAW, HE, hgx, hgx2⟩ := hcut
  obtain ⟨wz, rfl⟩ : ∃ x : World, x = wc := ⟨_, rfl⟩
  have HT : Hid (Sl (rRatK (3 * K + 1)) W.heap.size wz (some ⟨gx, 0, none⟩) n2 n2 (partV G f n2 0)) := Lib.hid (by rw [partV_zero, HF0.out]; exact HT0.out)
  go_wp2_with fail
  go_loopg [16] n2 (fun q9 vi wr => ∃ i : Nat, i ≤ n2 ∧ q9 = n2 - i ∧ vi = .int .i64 (i : Int) ∧ Hid (Sl (rRatK (3 * K + 1)) W.heap.size wr (some ⟨gx, 0, none⟩) n2 n2 (partV G f n2 i)) ∧ Hid (AwayR gx wr K By ayr n2 n2 Y) ∧ Hid (Ext W wr))
  case atStart => exact ⟨0, Nat.zero_le _, by omega, rfl, HT, HAW, HE⟩
  case round =>
   clear HT HT0 HAW HE hgx2
   obtain ⟨i, hi, hq9, rfl, HT, HAW, HE⟩ := hrel
   by_cases hin : i < n2
   ·obtain ⟨s1, a1, n1, c1, s2, a3, n3, c3, ⟨u0, u1, u2, u3⟩, ⟨f0, f1, f2, f3⟩, hR1⟩ := Sl.rowAt HT.out hin
    have hgx3 := World.block_lt_of_cell? _ _ u0
    obtain ⟨b7, o7, s4, a4, n4, c4, s5, a5, n5, c5, rfl, hb7, hne, v0, v1, v2, v3, hR2⟩ := AwayR.ent HAW.out hin
    rw [partV_at _ _ _ _ hin] at hR1
    have nb7 : ¬ b7 = gx := hne
    have nb7' : ¬ gx = b7 := fun e => hne e.symm
    have nb2 : ¬ w.heap.size + 1 + 1 = gx := by omega
    have nb2' : ¬ gx = w.heap.size + 1 + 1 := by omega
    obtain ⟨t, ht⟩ : ∃ t, G i = t := ⟨_, rfl⟩
    obtain ⟨z, hz⟩ : ∃ z, (Y[i]?).getD 0 = z := ⟨_, rfl⟩
    obtain ⟨p, hp⟩ : ∃ p, q * z = p := ⟨_, rfl⟩
    obtain ⟨x, hx⟩ : ∃ x, f i = x := ⟨_, rfl⟩
    rw [hx] at hR1
    rw [hz] at hR2
    have HPE := Lib.hid hp
    have HTG : Hid (x + p = t) := Lib.hid (by rw [← ht, ← hp, ← hx, ← hz]; exact HG.out i)
    have HTK : Hid (nl t.num.natAbs ≤ 3 * K + 1 ∧ nl t.den ≤ 3 * K + 1) := Lib.hid (by rw [← ht]; exact HGK.out i)
    have HPK : Hid (nl p.num.natAbs ≤ K + K ∧ nl p.den ≤ K + K) := Lib.hid (by rw [← hp, ← hz]; exact HPB.out i)
    have HPS : Hid ((partV G f n2 i).set i t = partV G f n2 (i + 1)) := Lib.hid (by rw [← ht]; exact partV_set _ _ _ _)
    have hp1 : (i : Int) < (n2 : Int) := by omega
    have hRq := hq.ext (Ext.trans HEW.out HE.out)
    have p2 := HP2.out.ext HE.out
    clear ht hz hp hx hne
    skip
    replace p2_0 := p2.cell (i := 0) rfl
    replace p2_1 := p2.cell (i := 1) rfl
    replace p2_2 := p2.cell (i := 2) rfl
    replace p2_3 := p2.cell (i := 3) rfl
    go_upto_region 5 with (fail)
    have hEd : Ext wr wr.drew := (Below.refl _ _).drew
    replace f0 := frozenE hEd u0 f0
    replace f1 := frozenE hEd u1 f1
    replace f2 := frozenE hEd u2 f2
    replace f3 := frozenE hEd u3 f3
    replace v0 := cellE hEd v0
    replace v1 := cellE hEd v1
    replace v2 := cellE hEd v2
    replace v3 := cellE hEd v3
    replace u0 := cellE hEd u0
    replace u1 := cellE hEd u1
    replace u2 := cellE hEd u2
    replace u3 := cellE hEd u3
    replace p2 := p2.ext hEd
    replace p2_0 := p2.cell (i := 0) rfl
    replace p2_1 := p2.cell (i := 1) rfl
    replace p2_2 := p2.cell (i := 2) rfl
    replace p2_3 := p2.cell (i := 3) rfl
    replace hR1 := hR1.ext hEd
    replace hR2 := hR2.ext hEd
    replace hRq := hRq.ext hEd
    have hE0 := hEd
    have hsz : wr.heap.size ≤ wr.drew.heap.size := Nat.le_refl _
    refine wp_region_noPanic ?_
    refine wp_region_held_drew (S := (fun w' => w'.cell? ⟨w.heap.size + 1 + 1, 0, none⟩ = some (.bool bx) ∧ w'.cell? ⟨w.heap.size + 1 + 1, 1, none⟩ = some (.slice ax nx cx) ∧ w'.cell? ⟨w.heap.size + 1 + 1, 2, none⟩ = some (.bool by1) ∧ w'.cell? ⟨w.heap.size + 1 + 1, 3, none⟩ = some (.slice ay ny cy) ∧ w'.cell? ⟨b7, o7 + i * 4, none⟩ = some (.bool s4) ∧ w'.cell? ⟨b7, o7 + i * 4 + 1, none⟩ = some (.slice a4 n4 c4) ∧ w'.cell? ⟨b7, o7 + i * 4 + 2, none⟩ = some (.bool s5) ∧ w'.cell? ⟨b7, o7 + i * 4 + 3, none⟩ = some (.slice a5 n5 c5))) (by kernel_rfl) ⟨p2_0, p2_1, p2_2, p2_3, v0, v1, v2, v3⟩ (fun hHeld => ?_)
    refine takeD 0 19 (v := ?_) rfl rfl (by kernel_rfl) (by kernel_rfl) (by kernel_rfl) (fun _ _ _ h => h) (Or.inl ⟨by kernel_rfl, ?hy⟩) hHeld ?_
    case hy => (intro w hSw; (try dsimp only at hSw); go_simp; try with_reducible rfl)
    try simp only [List.setIfInBounds_toArray, List.set_cons_zero, List.set_cons_succ]
    refine takeD 1 20 (v := ?_) rfl rfl (by kernel_rfl) (by kernel_rfl) (by kernel_rfl) (fun _ _ _ h => h) (Or.inl ⟨by kernel_rfl, ?hy⟩) hHeld ?_
    case hy => (intro w hSw; (try dsimp only at hSw); go_simp; try with_reducible rfl)
    try simp only [List.setIfInBounds_toArray, List.set_cons_zero, List.set_cons_succ]
    refine takeD 2 21 (v := ?_) rfl rfl (by kernel_rfl) (by kernel_rfl) (by kernel_rfl) (fun _ _ _ h => h) (Or.inl ⟨by kernel_rfl, ?hy⟩) hHeld ?_
    case hy => (intro w hSw; (try dsimp only at hSw); go_simp; try with_reducible rfl)
    try simp only [List.setIfInBounds_toArray, List.set_cons_zero, List.set_cons_succ]
    refine takeD 3 22 (v := ?_) rfl rfl (by kernel_rfl) (by kernel_rfl) (by kernel_rfl) (fun _ _ _ h => h) (Or.inl ⟨by kernel_rfl, ?hy⟩) hHeld ?_
    case hy => (intro w hSw; (try dsimp only at hSw); go_simp; try with_reducible rfl)
    try simp only [List.setIfInBounds_toArray, List.set_cons_zero, List.set_cons_succ]
    refine takeD 4 23 (v := ?_) rfl rfl (by kernel_rfl) (by kernel_rfl) (by kernel_rfl) (fun _ _ _ h => h) (Or.inl ⟨by kernel_rfl, ?hy⟩) hHeld ?_
    case hy => (intro w hSw; (try dsimp only at hSw); go_simp; try with_reducible rfl)
    try simp only [List.setIfInBounds_toArray, List.set_cons_zero, List.set_cons_succ]
    refine takeD 6 25 (v := ?_) rfl rfl (by kernel_rfl) (by kernel_rfl) (by kernel_rfl) (fun _ _ _ h => h) (Or.inl ⟨by kernel_rfl, ?hy⟩) hHeld ?_
    case hy => (intro w hSw; (try dsimp only at hSw); go_simp; try with_reducible rfl)
    try simp only [List.setIfInBounds_toArray, List.set_cons_zero, List.set_cons_succ]
    refine takeD 7 26 (v := ?_) rfl rfl (by kernel_rfl) (by kernel_rfl) (by kernel_rfl) (fun _ _ _ h => h) (Or.inl ⟨by kernel_rfl, ?hy⟩) hHeld ?_
    case hy => (intro w hSw; (try dsimp only at hSw); go_simp; try with_reducible rfl)
    try simp only [List.setIfInBounds_toArray, List.set_cons_zero, List.set_cons_succ]
    refine takeD 8 27 (v := ?_) rfl rfl (by kernel_rfl) (by kernel_rfl) (by kernel_rfl) (fun _ _ _ h => h) (Or.inl ⟨by kernel_rfl, ?hy⟩) hHeld ?_
    case hy => (intro w hSw; (try dsimp only at hSw); go_simp; try with_reducible rfl)
    try simp only [List.setIfInBounds_toArray, List.set_cons_zero, List.set_cons_succ]
    refine takeD 9 28 (v := ?_) rfl rfl (by kernel_rfl) (by kernel_rfl) (by kernel_rfl) (fun _ _ _ h => h) (Or.inl ⟨by kernel_rfl, ?hy⟩) hHeld ?_
    case hy => (intro w hSw; (try dsimp only at hSw); go_simp; try with_reducible rfl)
    try simp only [List.setIfInBounds_toArray, List.set_cons_zero, List.set_cons_succ]
    refine takeD 10 29 (v := ?_) rfl rfl (by kernel_rfl) (by kernel_rfl) (by kernel_rfl) (fun _ _ _ h => h) (Or.inl ⟨by kernel_rfl, ?hy⟩) hHeld ?_
    case hy => (intro w hSw; (try dsimp only at hSw); go_simp; try with_reducible rfl)
    try simp only [List.setIfInBounds_toArray, List.set_cons_zero, List.set_cons_succ]
    refine wpAnyH_ready (rs := [5, 11]) (by kernel_rfl) (by simp) ?_
    refine AllReadyH.cons rfl (fun Kc hKc => ?_) (AllReadyH.cons rfl (fun Kc hKc => ?_) AllReadyH.nil)
    rotate_left 1
    focus
     refine Eq.mpr (if_pos (by kernel_rfl)) ?_
     go_simp
     ((with_reducible refine (r5Mul_s K K (by omega) _ bx by1 s4 s5 ax ay a4 a5 nx cx ny cy n4 c4 n5 c5 q z hRq hR2 p HPE).mono ?_); rintro e w1 ⟨a11, n11, c11, a12, n12, c12, rfl, h11, h12, hE1⟩; replace f0 := frozenE hE1 u0 f0; replace f1 := frozenE hE1 u1 f1; replace f2 := frozenE hE1 u2 f2; replace f3 := frozenE hE1 u3 f3; replace v0 := cellE hE1 v0; replace v1 := cellE hE1 v1; replace v2 := cellE hE1 v2; replace v3 := cellE hE1 v3; replace u0 := cellE hE1 u0; replace u1 := cellE hE1 u1; replace u2 := cellE hE1 u2; replace u3 := cellE hE1 u3; replace hR1 := hR1.ext hE1; have hR4 := ratS_mk h11 h12 HPK.out.1 HPK.out.2; replace hsz := Nat.le_trans hsz hE1.size; replace p2 := p2.ext hE1; replace p2_0 := p2.cell (i := 0) rfl; replace p2_1 := p2.cell (i := 1) rfl; replace p2_2 := p2.cell (i := 2) rfl; replace p2_3 := p2.cell (i := 3) rfl; replace hE0 := Ext.trans hE0 hE1)
     go_wp2_with fail
     refine hKc.out _ _ ⟨p2_0, p2_1, p2_2, p2_3, v0, v1, v2, v3⟩ (fun hHeld => ?_)
     clear hKc Kc
     try simp only [Act.put, List.setIfInBounds_toArray, List.set_cons_zero, List.set_cons_succ]
     refine stepD 5 rfl (by kernel_rfl) (fun Kc hKc => ?_)
     refine Eq.mpr (if_pos (by kernel_rfl)) ?_
     go_simp
     refine hKc.out _ _ ⟨p2_0, p2_1, p2_2, p2_3, v0, v1, v2, v3⟩ (fun hHeld => ?_)
     clear hKc Kc
     try simp only [Act.put, List.setIfInBounds_toArray, List.set_cons_zero, List.set_cons_succ]
    rotate_right 1
    focus
     refine Eq.mpr (if_pos (by kernel_rfl)) ?_
     go_simp
     refine hKc.out _ _ ⟨p2_0, p2_1, p2_2, p2_3, v0, v1, v2, v3⟩ (fun hHeld => ?_)
     clear hKc Kc
     try simp only [Act.put, List.setIfInBounds_toArray, List.set_cons_zero, List.set_cons_succ]
     refine stepD 11 rfl (by kernel_rfl) (fun Kc hKc => ?_)
     refine Eq.mpr (if_pos (by kernel_rfl)) ?_
     go_simp
     ((with_reducible refine (r5Mul_s K K (by omega) _ bx by1 s4 s5 ax ay a4 a5 nx cx ny cy n4 c4 n5 c5 q z hRq hR2 p HPE).mono ?_); rintro e w1 ⟨a11, n11, c11, a12, n12, c12, rfl, h11, h12, hE1⟩; replace f0 := frozenE hE1 u0 f0; replace f1 := frozenE hE1 u1 f1; replace f2 := frozenE hE1 u2 f2; replace f3 := frozenE hE1 u3 f3; replace v0 := cellE hE1 v0; replace v1 := cellE hE1 v1; replace v2 := cellE hE1 v2; replace v3 := cellE hE1 v3; replace u0 := cellE hE1 u0; replace u1 := cellE hE1 u1; replace u2 := cellE hE1 u2; replace u3 := cellE hE1 u3; replace hR1 := hR1.ext hE1; have hR4 := ratS_mk h11 h12 HPK.out.1 HPK.out.2; replace hsz := Nat.le_trans hsz hE1.size; replace p2 := p2.ext hE1; replace p2_0 := p2.cell (i := 0) rfl; replace p2_1 := p2.cell (i := 1) rfl; replace p2_2 := p2.cell (i := 2) rfl; replace p2_3 := p2.cell (i := 3) rfl; replace hE0 := Ext.trans hE0 hE1)
     go_wp2_with fail
     refine hKc.out _ _ ⟨p2_0, p2_1, p2_2, p2_3, v0, v1, v2, v3⟩ (fun hHeld => ?_)
     clear hKc Kc
     try simp only [Act.put, List.setIfInBounds_toArray, List.set_cons_zero, List.set_cons_succ]
    all_goals
     refine stepD 12 rfl (by kernel_rfl) (fun Kc hKc => ?_)
     refine Eq.mpr (if_pos (by kernel_rfl)) ?_
     go_simp
     ((with_reducible refine (r5Add_s (3 * K + 1) (K + K) (by omega) _ s1 s2 _ _ a1 a3 a11 a12 n1 c1 n3 c3 n11 c11 n12 c12 x p hR1 hR4 t HTG).mono ?_); rintro e w1 ⟨a13, n13, c13, a14, n14, c14, rfl, h13, h14, hE1⟩; replace f0 := frozenE hE1 u0 f0; replace f1 := frozenE hE1 u1 f1; replace f2 := frozenE hE1 u2 f2; replace f3 := frozenE hE1 u3 f3; replace v0 := cellE hE1 v0; replace v1 := cellE hE1 v1; replace v2 := cellE hE1 v2; replace v3 := cellE hE1 v3; replace u0 := cellE hE1 u0; replace u1 := cellE hE1 u1; replace u2 := cellE hE1 u2; replace u3 := cellE hE1 u3; replace p2 := p2.ext hE1; replace p2_0 := p2.cell (i := 0) rfl; replace p2_1 := p2.cell (i := 1) rfl; replace p2_2 := p2.cell (i := 2) rfl; replace p2_3 := p2.cell (i := 3) rfl; replace h13 := h13.mono hsz (Kept.refl _ _); replace h14 := h14.mono hsz (Kept.refl _ _); have hE5 := Ext.trans hE0 hE1)
     go_wp2_with fail
     refine hKc.out _ _ ⟨p2_0, p2_1, p2_2, p2_3, v0, v1, v2, v3⟩ (fun hHeld => ?_)
     clear hKc Kc
     try simp only [Act.put, List.setIfInBounds_toArray, List.set_cons_zero, List.set_cons_succ]
     refine takeD 13 32 (v := ?_) rfl rfl (by kernel_rfl) (by kernel_rfl) (by kernel_rfl) (fun _ _ _ h => h) (Or.inl ⟨by kernel_rfl, ?hy⟩) hHeld ?_
     case hy => (intro w hSw; (try dsimp only at hSw); go_simp; try with_reducible rfl)
     try simp only [List.setIfInBounds_toArray, List.set_cons_zero, List.set_cons_succ]
     refine stepD 14 rfl (by kernel_rfl) (fun Kc hKc => ?_)
     refine Eq.mpr (if_pos (by kernel_rfl)) ?_
     go_simp
     refine hKc.out _ _ (by go_keep) (fun hHeld => ?_)
     clear hKc Kc
     try simp only [Act.put, List.setIfInBounds_toArray, List.set_cons_zero, List.set_cons_succ]
     refine wpAnyH_done (by kernel_rfl) ?_ _
     refine NoPanic.normal ?_
    all_goals
     have hT2 := Sl.setRat (HT.out.ext (Nat.le_refl _) hE5) hin (ratK_mk (h13.mono (show W.heap.size ≤ wr.heap.size from HE.out.size) (Kept.refl _ _)) (h14.mono (show W.heap.size ≤ wr.heap.size from HE.out.size) (Kept.refl _ _)) HTK.out.1 HTK.out.2)
     rw [HPS.out] at hT2
     have HT2 := Lib.hid hT2
     have HAW2 := Lib.hid ((HAW.out.ext hE5).set [.bool (decide (t.num < 0)), .slice a13 n13 c13, .bool false, .slice a14 n14 c14] (i * 4))
     have HE2 := Lib.hid (ext_set4' (Ext.trans HE.out hE5) (i * 4) (.bool (decide (t.num < 0))) (.slice a13 n13 c13) (.bool false) (.slice a14 n14 c14) (b := gx) (by omega))
     clear hT2 h13 h14 h11 h12 hE5 hE0 hE1 hR1 hR2 hR4 hRq v0 v1 v2 v3 u0 u1 u2 u3 f0 f1 f2 f3 p2 p2_0 p2_1 p2_2 p2_3
     go_wp2_with fail
     go_roundg (n2 - (i + 1))
     case measure => omega
     case rel => exact ⟨i + 1, by omega, rfl, by go_num, HT2, HAW2, HE2⟩
   ·obtain rfl : i = n2 := by omega
    have hT := HT.out
    rw [partV_all, HQ.out] at hT
    have HRR := Lib.hid (Sl.mono hT (Nat.zero_le _) (Kept.refl _ _))
    clear hT
    go_wp2_with fail
    (with_reducible refine (r11Vec_n (3 * K + 1) (3 * K) (by omega) wr (some ⟨gx, 0, none⟩) i i qs HRR.out HCD.out hn2).mono ?_)
    rintro e w5 ⟨a9, n9, c9, a10, n10, c10, rfl, h9, h10, hE5⟩
    have r0 := HR0.out.ext (Ext.trans HE.out hE5)
    skip
    replace r0_0 := r0.cell (i := 0) rfl
    replace r0_1 := r0.cell (i := 1) rfl
    replace r0_2 := r0.cell (i := 2) rfl
    replace r0_f0 := r0.free 0
    replace r0_f1 := r0.free 1
    replace r0_f2 := r0.free 2
    replace r0_lt := r0.lt
    have hW2 := HE.out.size
    have HF : Hid (RVRefN w qs (.returned (.agg #[.bool false, .slice a9 n9 c9, .slice a10 n10 c10])) (((w5.setCell ⟨w.heap.size + 1 + 1 + 1, 0, none⟩ (.bool false)).setCell ⟨w.heap.size + 1 + 1 + 1, 1, none⟩ (.slice a9 n9 c9)).setCell ⟨w.heap.size + 1 + 1 + 1, 2, none⟩ (.slice a10 n10 c10))) := Lib.hid ⟨a9, n9, c9, a10, n10, c10, rfl, h9.mono (by omega) (kept_set3 _ _ _ _ (by omega)), h10.mono (by omega) (kept_set3 _ _ _ _ (by omega)), ext_set3 (Ext.trans HEW.out (Ext.trans HE.out hE5)) _ _ _ (by omega)⟩
    clear h9 h10 hE5
    have r02 : Blk ((((w5).setCell ⟨w.heap.size + 1 + 1 + 1, 0, none⟩ (.bool false)).setCell ⟨w.heap.size + 1 + 1 + 1, 1, none⟩ (.slice a9 n9 c9)).setCell ⟨w.heap.size + 1 + 1 + 1, 2, none⟩ (.slice a10 n10 c10)) _ _ #[.bool false, .slice a9 n9 c9, .slice a10 n10 c10] := (((r0).set 0 (.bool false)).set 1 (.slice a9 n9 c9)).set 2 (.slice a10 n10 c10)
    have hr00 := r02.cell (i := 0) rfl
    have hr01 := r02.cell (i := 1) rfl
    have hr02 := r02.cell (i := 2) rfl
    go_wp2_with fail
    exact bodyPost_ret (v := .agg #[.bool false, .slice a9 n9 c9, .slice a10 n10 c10]) (by simp [results, Tryz.results56, go_sem, hr00, hr01, hr02]) rfl HF.out
end Go.Proofs.YtbhenelehhiakaaGreat
