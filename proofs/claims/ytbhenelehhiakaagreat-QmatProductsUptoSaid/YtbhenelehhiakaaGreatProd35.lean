/-
  qmat: the closures of Scale, Add, Sub, Mul.
-/
import Derived.Test.YtbhenelehhiakaaGreatProd34
import Derived.Test.YtbhenelehhiakaaGreatProd31
import Derived.Test.YtbhenelehhiakaaGreatProd29
set_option linter.unusedVariables false
set_option linter.unusedSimpArgs false
namespace Go.Proofs.YtbhenelehhiakaaGreat
open Go.RowKit

def sumZ : Nat → (Nat → Int) → Int
  | 0, _ => 0
  | n + 1, f => sumZ n f + f n
/-- one entry -/
def entry (zss : List (List Int)) (i j : Nat) : Int := (((zss[i]?).getD [])[j]?).getD 0
/-- the product's entries -/
def mulZ (zss zss' : List (List Int)) (n i k : Nat) : Int := sumZ n fun j => entry zss i j * entry zss' j k
theorem MatS.entry {K : Nat} {w : World} {b : Bool} {a a2 : Option Addr} {n c n2 c2 m : Nat} {d : Int} {zss : List (List Int)} (h : MatS K w b a n c a2 n2 c2 d zss) (hrow : ∀ zs ∈ zss, zs.length = m) {i j : Nat} (hi : i < n2) (hj : j < m) :
    ∃ b5 o5 b7 o7 c5 s7 a7 n7 c7 l7, a2 = some ⟨b5, o5, none⟩ ∧ b5 < w.heap.size ∧ b7 < w.heap.size ∧ w.cell? ⟨b5, o5 + i, none⟩ = some (.slice (some ⟨b7, o7, none⟩) m c5) ∧ w.cell? ⟨b7, o7 + j * 2, none⟩ = some (.bool s7) ∧ w.cell? ⟨b7, o7 + j * 2 + 1, none⟩ = some (.slice a7 n7 c7) ∧ NatS 0 w a7 n7 c7 l7 ∧ ival s7 l7 = Proofs.YtbhenelehhiakaaGreat.entry zss i j ∧ n7 ≤ K := by
  obtain ⟨l0, h1, h2, h3, h4⟩ := h
  obtain ⟨b5, o5, a5, n5, c5, zs, rfl, hb5, hzs, hc5, hZ⟩ := Sl.getRow h4 hi
  have hn5 : n5 = m := by rw [← hZ.len]; exact hrow zs (List.mem_of_getElem? hzs)
  subst hn5
  obtain ⟨b7, o7, s7, a7, n7, c7, l7, z, rfl, hb7, hz7, hc8, hc9, h7, hi7, hn7⟩ := hZ.getInt (i := j) hj
  refine ⟨b5, o5, b7, o7, c5, s7, a7, n7, c7, l7, rfl, hb5, hb7, hc5, hc8, hc9, h7, ?_, hn7⟩
  rw [hi7]; unfold Proofs.YtbhenelehhiakaaGreat.entry; rw [hzs]; show z = (zs[j]?).getD 0; rw [hz7]; rfl
/-- an integer in new memory, as a letter -/
def RIntB (K : Nat) (w : World) (z : Int) (e : Ending) (w' : World) : Prop := ∃ s a n c, e = .returned (.agg #[.bool s, .slice a n c]) ∧ NatS w.heap.size w' a n c (limbs z.natAbs) ∧ Hid (ival s (limbs z.natAbs) = z) ∧ n ≤ K ∧ Ext w w'
theorem RInt.b {w w' : World} {z : Int} {e : Ending} (h : RInt w z e w') {K : Nat} (hK : nl z.natAbs ≤ K) : RIntB K w z e w' := by
  obtain ⟨a, n, c, rfl, h1, hE⟩ := h
  exact ⟨_, a, n, c, rfl, h1, Lib.hid (ival_norm _), by have := len_norm h1; omega, hE⟩
theorem zmul_b {K K2 : Nat} (b b2 : Bool) (w : World) (a a2 : Option Addr) (n c n2 c2 : Nat) (l l2 : Nt) (z z2 : Int) (h : NatS 0 w a n c l) (h2 : NatS 0 w a2 n2 c2 l2) (hn : n ≤ K) (hn2 : n2 ≤ K2) (hK : K + K2 ≤ 8796093022208) (hz : Hid (ival b l = z)) (hz2 : Hid (ival b2 l2 = z2)) (y : Int) (hy : Hid (z * z2 = y)) :
    Calls Tryz.prog 71 #[.agg #[.bool b, .slice a n c], .agg #[.bool b2, .slice a2 n2 c2]] w (RIntB (K + K2) w y) :=
  (zintMul_z b b2 0 w a a2 n c n2 c2 l l2 z z2 h h2 (by omega) (by omega) hz hz2).mono fun e w' hr => by
    rw [hy.out] at hr
    refine hr.b ?_
    rw [← hy.out, Int.natAbs_mul]
    have g2 := nl_mul z.natAbs z2.natAbs
    have g3 := nl_of h hz
    have g4 := nl_of h2 hz2
    omega
theorem nl_addI (x y : Int) : nl (x + y).natAbs ≤ max (nl x.natAbs) (nl y.natAbs) + 1 := by
  have h : (x + y).natAbs ≤ x.natAbs + y.natAbs := Int.natAbs_add_le x y
  refine Nat.le_trans (nl_mono h) ?_
  refine nl_le_of_lt ?_
  have h1 := lt_pow_nl x.natAbs
  have h2 := lt_pow_nl y.natAbs
  have h3 : 4294967296 ^ nl x.natAbs ≤ 4294967296 ^ max (nl x.natAbs) (nl y.natAbs) := Nat.pow_le_pow_right (by decide) (Nat.le_max_left _ _)
  have h4 : 4294967296 ^ nl y.natAbs ≤ 4294967296 ^ max (nl x.natAbs) (nl y.natAbs) := Nat.pow_le_pow_right (by decide) (Nat.le_max_right _ _)
  generalize 4294967296 ^ nl x.natAbs = p1 at *
  generalize 4294967296 ^ nl y.natAbs = p2 at *
  rw [Nat.pow_succ]
  generalize 4294967296 ^ max (nl x.natAbs) (nl y.natAbs) = p at *
  omega
theorem zadd_b {K : Nat} (b b2 : Bool) (w : World) (a a2 : Option Addr) (n c n2 c2 : Nat) (l l2 : Nt) (z z2 : Int) (h : NatS 0 w a n c l) (h2 : NatS 0 w a2 n2 c2 l2) (hn : n ≤ K) (hn2 : n2 ≤ K) (hK : K + 1 ≤ 8796093022208) (hz : Hid (ival b l = z)) (hz2 : Hid (ival b2 l2 = z2)) (y : Int) (hy : Hid (z + z2 = y)) :
    Calls Tryz.prog 93 #[.agg #[.bool b, .slice a n c], .agg #[.bool b2, .slice a2 n2 c2]] w (RIntB (K + 1) w y) :=
  (zintAdd_z b b2 0 w a a2 n c n2 c2 l l2 z z2 h h2 (by omega) (by omega) hz hz2).mono fun e w' hr => by
    rw [hy.out] at hr
    refine hr.b ?_
    rw [← hy.out]
    have g2 := nl_addI z z2
    have g3 := nl_of h hz
    have g4 := nl_of h2 hz2
    omega

theorem cellR_mk {w0 w w5 : World} {B : Nat} {s : Bool} {a : Option Addr} {n c : Nat} {z : Int} (hE0 : Ext w w5) (hrl : w.heap.size < B) (hsz : B ≤ w5.heap.size) (h : NatS B w5 a n c (limbs z.natAbs)) (hv : Hid (ival s (limbs z.natAbs) = z)) (hn : n ≤ 8796093022208) (_ : w.heap.size ≤ B) :
    CellR w0 w z (.returned (.agg #[.bool s, .slice a n c])) ((w5.setCell ⟨w.heap.size, 0, none⟩ (.bool s)).setCell ⟨w.heap.size, 1, none⟩ (.slice a n c)) :=
  ⟨s, a, n, c, _, rfl, .inr ((h.mono (Nat.le_refl _) (Kept.trans (kept_set _ _ _ hrl) (kept_set _ _ _ hrl))).mono (by omega) (Kept.refl _ _)), hv.out, hn, Below.setCell (Below.setCell hE0 (p := ⟨w.heap.size, 0, none⟩) (Nat.le_refl _) _) (p := ⟨w.heap.size, 1, none⟩) (Nat.le_refl _) _⟩

set_option maxRecDepth 100000 in
set_option maxHeartbeats 8000000 in
theorem mul1_any (K : Nat) (w0 : World) (b : Bool) (a a2 : Option Addr) (n c n2 c2 : Nat) (d : Int) (zss : List (List Int)) (h : MatS K w0 b a n c a2 n2 c2 d zss) (b' : Bool) (a' a2' : Option Addr) (n' c' nn c2' : Nat) (d' : Int) (zss' : List (List Int)) (h' : MatS K w0 b' a' n' c' a2' nn c2' d' zss') (hK : K + K + nn ≤ 8796093022208) (m : Nat) (hrow : Hid (∀ zs ∈ zss, zs.length = nn)) (hrow' : Hid (∀ zs ∈ zss', zs.length = m))
    (pn pa pb : Nat) (tn ta tb : TypeId) (qn : Blk w0 pn tn #[.int .i64 (nn : Int)]) (qa : Blk w0 pa ta #[.bool b, .slice a n c, .slice a2 n2 c2]) (qb : Blk w0 pb tb #[.bool b', .slice a' n' c', .slice a2' nn c2']) (r : Nat) (hr : r ≤ n2) (hn2 : n2 ≤ 1099511627776) (hnn : nn ≤ 1099511627776) (hm : m ≤ 1099511627776) :
    CellOf Tryz.prog 92 #[.pointer (some ⟨pn, 0, none⟩), .pointer (some ⟨pa, 0, none⟩), .pointer (some ⟨pb, 0, none⟩)] r m (mulZ zss zss' nn) w0 := fun i j w hi hj hE => by
  show Calls Tryz.prog 92 #[.int .i64 (i : Int), .int .i64 (j : Int), .pointer (some ⟨pn, 0, none⟩), .pointer (some ⟨pa, 0, none⟩), .pointer (some ⟨pb, 0, none⟩)] w _
  have hlw := hE.size
  have HM := Lib.hid h
  have HM' := Lib.hid h'
  have HE := Lib.hid hE
  have hp1 : (i : Int) < (n2 : Int) := by omega
  have hp2 : (j : Int) < (m : Int) := by omega
  have lo := qn.lt
  have la := qa.lt
  have lb := qb.lt
  have qn0 := qn.ext hE
  have qn0_0 := qn0.cell (i := 0) rfl
  clear h h' hE
  show Calls _ _ _ _ (CellR w0 w (sumZ nn fun k => entry zss i k * entry zss' k j))
  go_enter Tryz.func92, Tryz.ntmps92
  go_upto_region 2 with (fail)
  have r0 := Blk.new w 25 #[.bool false, .slice none 0 0]
  have s := Blk.new (w.alloc (Obj.cells #[.bool false, .slice none 0 0] 25)) 25 #[.bool false, .slice none 0 0]
  replace r0 := r0.ext ((Below.refl _ _).alloc (Nat.le_refl _) (Obj.cells #[.bool false, .slice none 0 0] 25))
  have hEW : Ext w ((w.alloc (Obj.cells #[.bool false, .slice none 0 0] 25)).alloc (Obj.cells #[.bool false, .slice none 0 0] 25)) := (((Below.refl _ w).alloc (by simp) _).alloc (by simp) _)
  generalize hgW : (w.alloc (Obj.cells #[.bool false, .slice none 0 0] 25)).alloc (Obj.cells #[.bool false, .slice none 0 0] 25) = W at *
  clear hgW
  simp only [World.size_alloc] at s
  have r0_ne_s : ¬ w.heap.size = w.heap.size + 1 := by omega
  have s_ne_r0 : ¬ w.heap.size + 1 = w.heap.size := by omega
  replace r0_0 := r0.cell (i := 0) rfl
  replace r0_1 := r0.cell (i := 1) rfl
  replace s_0 := s.cell (i := 0) rfl
  replace s_1 := s.cell (i := 1) rfl
  have hrl : w.heap.size + 1 < W.heap.size := s.lt
  have HR0 := Lib.hid r0
  have HS0 : Hid (∃ sx ax nx cx, Blk W (w.heap.size + 1) 25 #[.bool sx, .slice ax nx cx] ∧ NatS W.heap.size W ax nx cx (limbs (sumZ 0 fun k => entry zss i k * entry zss' k j).natAbs) ∧ Hid (ival sx (limbs (sumZ 0 fun k => entry zss i k * entry zss' k j).natAbs) = sumZ 0 fun k => entry zss i k * entry zss' k j) ∧ nx ≤ K + K + 0) := Lib.hid ⟨false, none, 0, 0, s, by have : limbs (sumZ 0 fun k => entry zss i k * entry zss' k j).natAbs = [] := limbs_zero; rw [this]; exact natS_nil _ _, Lib.hid (by have : limbs (sumZ 0 fun k => entry zss i k * entry zss' k j).natAbs = [] := limbs_zero; rw [this]; rfl), Nat.zero_le _⟩
  have HEW := Lib.hid hEW
  replace qn0 := qn0.ext hEW
  replace qn0_0 := qn0.cell (i := 0) rfl
  clear r0 r0_0 r0_1 s s_0 s_1 hEW
  go_wp2_with fail
  go_loopg [11] nn (fun q vi wr => ∃ k : Nat, k ≤ nn ∧ q = nn - k ∧ vi = .int .i64 (k : Int) ∧ Hid (∃ sx ax nx cx, Blk wr (w.heap.size + 1) 25 #[.bool sx, .slice ax nx cx] ∧ NatS W.heap.size wr ax nx cx (limbs (sumZ k fun k => entry zss i k * entry zss' k j).natAbs) ∧ Hid (ival sx (limbs (sumZ k fun k => entry zss i k * entry zss' k j).natAbs) = sumZ k fun k => entry zss i k * entry zss' k j) ∧ nx ≤ K + K + k) ∧ Hid (Blk wr w.heap.size 25 #[.bool false, .slice none 0 0]) ∧ Hid (Ext w wr) ∧ W.heap.size ≤ wr.heap.size)
  case atStart => exact ⟨0, Nat.zero_le _, by omega, rfl, HS0, HR0, HEW, Nat.le_refl _⟩
  case round =>
    clear HS0 HR0 qn0 qn0_0
    obtain ⟨k, hk, hq, rfl, HSk, HRk, HEk, hwr⟩ := hrel
    obtain ⟨sx, ax, nx, cx, s, hx, HVx, hnx⟩ := HSk.out
    by_cases hkn : k < nn
    · obtain ⟨b5, o5, b7, o7, c5, s7, a7, n7, c7, l7, rfl, hb5, hb7, hc5, hc8, hc9, h7, hi7, hn7⟩ := HM.out.entry hrow.out (show i < n2 by omega) hkn
      obtain ⟨b6, o6, b8, o8, c6, s8, a8, n8, c8, l8, rfl, hb6, hb8, hd5, hd8, hd9, h8, hi8, hn8⟩ := HM'.out.entry hrow'.out hkn hj
      obtain ⟨z1, hz1⟩ : ∃ y, entry zss i k * entry zss' k j = y := ⟨_, rfl⟩
      have hss : sumZ (k + 1) (fun k => entry zss i k * entry zss' k j) = sumZ k (fun k => entry zss i k * entry zss' k j) + z1 := by rw [← hz1]; rfl
      obtain ⟨z0, hz0⟩ : ∃ y, sumZ k (fun k => entry zss i k * entry zss' k j) = y := ⟨_, rfl⟩
      rw [hz0] at hss hx HVx
      obtain ⟨z2, hz2⟩ : ∃ y, z0 + z1 = y := ⟨_, rfl⟩
      rw [hz2] at hss
      have HZ1 := Lib.hid hz1
      have HZ2 := Lib.hid hz2
      have HSS := Lib.hid hss
      have HI7 := Lib.hid hi7
      have HI8 := Lib.hid hi8
      have hp3 : (k : Int) < (nn : Int) := by omega
      skip
      skip
      skip
      skip
      have r0 := HRk.out
      clear hz1 hz2 hss hz0 hi7 hi8 HSk
      go_upto_region 5 with (fail)
      have hEd : Ext wr wr.drew := (Below.refl _ _).drew
      have hE0 : Ext w wr.drew := Ext.trans HEk.out hEd
      have hE9 := Ext.trans HE.out hE0
      replace s := s.ext hEd; replace s_0 := s.cell (i := 0) rfl; replace s_1 := s.cell (i := 1) rfl; replace s_f0 := s.free 0; replace s_f1 := s.free 1; replace s_lt := s.lt; replace r0 := r0.ext hEd; replace r0_0 := r0.cell (i := 0) rfl; replace r0_1 := r0.cell (i := 1) rfl
      replace qa := qa.ext hE9; replace qa_0 := qa.cell (i := 0) rfl; replace qa_1 := qa.cell (i := 1) rfl; replace qa_2 := qa.cell (i := 2) rfl; replace qb := qb.ext hE9; replace qb_0 := qb.cell (i := 0) rfl; replace qb_1 := qb.cell (i := 1) rfl; replace qb_2 := qb.cell (i := 2) rfl
      replace hc5 := cellE hE9 hc5
      replace hc8 := cellE hE9 hc8
      replace hc9 := cellE hE9 hc9
      replace hd5 := cellE hE9 hd5
      replace hd8 := cellE hE9 hd8
      replace hd9 := cellE hE9 hd9
      replace h7 := h7.ext (Nat.le_refl _) hE9
      replace h8 := h8.ext (Nat.le_refl _) hE9
      replace hx := hx.ext (Nat.le_refl _) hEd
      have hsz : W.heap.size ≤ wr.drew.heap.size := hwr
      have na : ¬ pa = w.heap.size + 1 := by omega
      have nb : ¬ pb = w.heap.size + 1 := by omega
      have n5a : ¬ b5 = w.heap.size + 1 := by omega
      have n7a : ¬ b7 = w.heap.size + 1 := by omega
      have n6a : ¬ b6 = w.heap.size + 1 := by omega
      have n8a : ¬ b8 = w.heap.size + 1 := by omega
      have na' : ¬ w.heap.size + 1 = pa := by omega
      have nb' : ¬ w.heap.size + 1 = pb := by omega
      have n5b : ¬ w.heap.size + 1 = b5 := by omega
      have n7b : ¬ w.heap.size + 1 = b7 := by omega
      have n6b : ¬ w.heap.size + 1 = b6 := by omega
      have n8b : ¬ w.heap.size + 1 = b8 := by omega
      refine wp_region_noPanic ?_
      refine wp_region_held_drew (S := (fun w' => w'.cell? ⟨b5, o5 + i, none⟩ = some (.slice (some ⟨b7, o7, none⟩) nn c5) ∧ w'.cell? ⟨b7, o7 + k * 2, none⟩ = some (.bool s7) ∧ w'.cell? ⟨b7, o7 + k * 2 + 1, none⟩ = some (.slice a7 n7 c7) ∧ w'.cell? ⟨b6, o6 + k, none⟩ = some (.slice (some ⟨b8, o8, none⟩) m c6) ∧ w'.cell? ⟨b8, o8 + j * 2, none⟩ = some (.bool s8) ∧ w'.cell? ⟨b8, o8 + j * 2 + 1, none⟩ = some (.slice a8 n8 c8) ∧ w'.cell? ⟨pa, 0, none⟩ = some (.bool b) ∧ w'.cell? ⟨pa, 1, none⟩ = some (.slice a n c) ∧ w'.cell? ⟨pa, 2, none⟩ = some (.slice (some ⟨b5, o5, none⟩) n2 c2) ∧ w'.cell? ⟨pb, 0, none⟩ = some (.bool b') ∧ w'.cell? ⟨pb, 1, none⟩ = some (.slice a' n' c') ∧ w'.cell? ⟨pb, 2, none⟩ = some (.slice (some ⟨b6, o6, none⟩) nn c2'))) (by kernel_rfl) ⟨hc5, hc8, hc9, hd5, hd8, hd9, qa_0, qa_1, qa_2, qb_0, qb_1, qb_2⟩ (fun hHeld => ?_)
      refine takeD 1 15 (v := ?_) rfl rfl (by kernel_rfl) (by kernel_rfl) (by kernel_rfl) (fun _ _ _ h => h) (Or.inl ⟨by kernel_rfl, ?hy⟩) hHeld ?_
      case hy => (intro w hSw; (try dsimp only at hSw); go_simp; try with_reducible rfl)
      try simp only [List.setIfInBounds_toArray, List.set_cons_zero, List.set_cons_succ]
      refine takeD 2 16 (v := ?_) rfl rfl (by kernel_rfl) (by kernel_rfl) (by kernel_rfl) (fun _ _ _ h => h) (Or.inl ⟨by kernel_rfl, ?hy⟩) hHeld ?_
      case hy => (intro w hSw; (try dsimp only at hSw); go_simp; try with_reducible rfl)
      try simp only [List.setIfInBounds_toArray, List.set_cons_zero, List.set_cons_succ]
      refine takeD 3 17 (v := ?_) rfl rfl (by kernel_rfl) (by kernel_rfl) (by kernel_rfl) (fun _ _ _ h => h) (Or.inl ⟨by kernel_rfl, ?hy⟩) hHeld ?_
      case hy => (intro w hSw; (try dsimp only at hSw); go_simp; try with_reducible rfl)
      try simp only [List.setIfInBounds_toArray, List.set_cons_zero, List.set_cons_succ]
      refine takeD 4 18 (v := ?_) rfl rfl (by kernel_rfl) (by kernel_rfl) (by kernel_rfl) (fun _ _ _ h => h) (Or.inl ⟨by kernel_rfl, ?hy⟩) hHeld ?_
      case hy => (intro w hSw; (try dsimp only at hSw); go_simp; try with_reducible rfl)
      try simp only [List.setIfInBounds_toArray, List.set_cons_zero, List.set_cons_succ]
      refine takeD 5 19 (v := ?_) rfl rfl (by kernel_rfl) (by kernel_rfl) (by kernel_rfl) (fun _ _ _ h => h) (Or.inl ⟨by kernel_rfl, ?hy⟩) hHeld ?_
      case hy => (intro w hSw; (try dsimp only at hSw); go_simp; try with_reducible rfl)
      try simp only [List.setIfInBounds_toArray, List.set_cons_zero, List.set_cons_succ]
      refine takeD 6 20 (v := ?_) rfl rfl (by kernel_rfl) (by kernel_rfl) (by kernel_rfl) (fun _ _ _ h => h) (Or.inl ⟨by kernel_rfl, ?hy⟩) hHeld ?_
      case hy => (intro w hSw; (try dsimp only at hSw); go_simp; try with_reducible rfl)
      try simp only [List.setIfInBounds_toArray, List.set_cons_zero, List.set_cons_succ]
      refine takeD 7 21 (v := ?_) rfl rfl (by kernel_rfl) (by kernel_rfl) (by kernel_rfl) (fun _ _ _ h => h) (Or.inl ⟨by kernel_rfl, ?hy⟩) hHeld ?_
      case hy => (intro w hSw; (try dsimp only at hSw); go_simp; try with_reducible rfl)
      try simp only [List.setIfInBounds_toArray, List.set_cons_zero, List.set_cons_succ]
      refine takeD 8 22 (v := ?_) rfl rfl (by kernel_rfl) (by kernel_rfl) (by kernel_rfl) (fun _ _ _ h => h) (Or.inl ⟨by kernel_rfl, ?hy⟩) hHeld ?_
      case hy => (intro w hSw; (try dsimp only at hSw); go_simp; try with_reducible rfl)
      try simp only [List.setIfInBounds_toArray, List.set_cons_zero, List.set_cons_succ]
      refine takeD 9 23 (v := ?_) rfl rfl (by kernel_rfl) (by kernel_rfl) (by kernel_rfl) (fun _ _ _ h => h) (Or.inl ⟨by kernel_rfl, ?hy⟩) hHeld ?_
      case hy => (intro w hSw; (try dsimp only at hSw); go_simp; try with_reducible rfl)
      try simp only [List.setIfInBounds_toArray, List.set_cons_zero, List.set_cons_succ]
      refine takeD 10 24 (v := ?_) rfl rfl (by kernel_rfl) (by kernel_rfl) (by kernel_rfl) (fun _ _ _ h => h) (Or.inl ⟨by kernel_rfl, ?hy⟩) hHeld ?_
      case hy => (intro w hSw; (try dsimp only at hSw); go_simp; try with_reducible rfl)
      try simp only [List.setIfInBounds_toArray, List.set_cons_zero, List.set_cons_succ]
      refine takeD 11 25 (v := ?_) rfl rfl (by kernel_rfl) (by kernel_rfl) (by kernel_rfl) (fun _ _ _ h => h) (Or.inl ⟨by kernel_rfl, ?hy⟩) hHeld ?_
      case hy => (intro w hSw; (try dsimp only at hSw); go_simp; try with_reducible rfl)
      try simp only [List.setIfInBounds_toArray, List.set_cons_zero, List.set_cons_succ]
      refine takeD 12 26 (v := ?_) rfl rfl (by kernel_rfl) (by kernel_rfl) (by kernel_rfl) (fun _ _ _ h => h) (Or.inl ⟨by kernel_rfl, ?hy⟩) hHeld ?_
      case hy => (intro w hSw; (try dsimp only at hSw); go_simp; try with_reducible rfl)
      try simp only [List.setIfInBounds_toArray, List.set_cons_zero, List.set_cons_succ]
      refine takeD 13 27 (v := ?_) rfl rfl (by kernel_rfl) (by kernel_rfl) (by kernel_rfl) (fun _ _ _ h => h) (Or.inl ⟨by kernel_rfl, ?hy⟩) hHeld ?_
      case hy => (intro w hSw; (try dsimp only at hSw); go_simp; try with_reducible rfl)
      try simp only [List.setIfInBounds_toArray, List.set_cons_zero, List.set_cons_succ]
      refine takeD 14 28 (v := ?_) rfl rfl (by kernel_rfl) (by kernel_rfl) (by kernel_rfl) (fun _ _ _ h => h) (Or.inl ⟨by kernel_rfl, ?hy⟩) hHeld ?_
      case hy => (intro w hSw; (try dsimp only at hSw); go_simp; try with_reducible rfl)
      try simp only [List.setIfInBounds_toArray, List.set_cons_zero, List.set_cons_succ]
      refine takeD 15 29 (v := ?_) rfl rfl (by kernel_rfl) (by kernel_rfl) (by kernel_rfl) (fun _ _ _ h => h) (Or.inl ⟨by kernel_rfl, ?hy⟩) hHeld ?_
      case hy => (intro w hSw; (try dsimp only at hSw); go_simp; try with_reducible rfl)
      try simp only [List.setIfInBounds_toArray, List.set_cons_zero, List.set_cons_succ]
      refine takeD 16 30 (v := ?_) rfl rfl (by kernel_rfl) (by kernel_rfl) (by kernel_rfl) (fun _ _ _ h => h) (Or.inl ⟨by kernel_rfl, ?hy⟩) hHeld ?_
      case hy => (intro w hSw; (try dsimp only at hSw); go_simp; try with_reducible rfl)
      try simp only [List.setIfInBounds_toArray, List.set_cons_zero, List.set_cons_succ]
      refine wpAnyH_ready (rs := [0, 17]) (by kernel_rfl) (by simp) ?_
      refine AllReadyH.cons rfl (fun Kc hKc => ?_) (AllReadyH.cons rfl (fun Kc hKc => ?_) AllReadyH.nil)
      rotate_left 1
      focus
        refine Eq.mpr (if_pos (by kernel_rfl)) ?_
        go_simp
        ((with_reducible refine (zmul_b s7 s8 _ a7 a8 n7 c7 n8 c8 l7 l8 _ _ h7 h8 hn7 hn8 (by omega) HI7 HI8 z1 HZ1).mono ?_); rintro e w1 ⟨s9, a9, n9, c9, rfl, h9, HV9, hn9, hE1⟩; replace qa := qa.ext hE1; replace qa_0 := qa.cell (i := 0) rfl; replace qa_1 := qa.cell (i := 1) rfl; replace qa_2 := qa.cell (i := 2) rfl; replace qb := qb.ext hE1; replace qb_0 := qb.cell (i := 0) rfl; replace qb_1 := qb.cell (i := 1) rfl; replace qb_2 := qb.cell (i := 2) rfl; replace s := s.ext hE1; replace s_0 := s.cell (i := 0) rfl; replace s_1 := s.cell (i := 1) rfl; replace s_f0 := s.free 0; replace s_f1 := s.free 1; replace s_lt := s.lt; replace r0 := r0.ext hE1; replace r0_0 := r0.cell (i := 0) rfl; replace r0_1 := r0.cell (i := 1) rfl; replace hc5 := cellE hE1 hc5; replace hc8 := cellE hE1 hc8; replace hc9 := cellE hE1 hc9; replace hd5 := cellE hE1 hd5; replace hd8 := cellE hE1 hd8; replace hd9 := cellE hE1 hd9; replace hx := hx.ext (Nat.le_refl _) hE1; replace h7 := h7.ext (Nat.le_refl _) hE1; replace h8 := h8.ext (Nat.le_refl _) hE1; replace h9 := h9.mono hsz (Kept.refl _ _); replace hsz := Nat.le_trans hsz hE1.size; replace hE0 := Ext.trans hE0 hE1)
        go_wp2_with fail
        refine hKc.out _ _ ⟨hc5, hc8, hc9, hd5, hd8, hd9, qa_0, qa_1, qa_2, qb_0, qb_1, qb_2⟩ (fun hHeld => ?_)
        clear hKc Kc
        try simp only [Act.put, List.setIfInBounds_toArray, List.set_cons_zero, List.set_cons_succ]
        refine stepD 0 rfl (by kernel_rfl) (fun Kc hKc => ?_)
        refine Eq.mpr (if_pos (by kernel_rfl)) ?_
        go_simp
        refine hKc.out _ _ ⟨hc5, hc8, hc9, hd5, hd8, hd9, qa_0, qa_1, qa_2, qb_0, qb_1, qb_2⟩ (fun hHeld => ?_)
        clear hKc Kc
        try simp only [Act.put, List.setIfInBounds_toArray, List.set_cons_zero, List.set_cons_succ]
      rotate_right 1
      focus
        refine Eq.mpr (if_pos (by kernel_rfl)) ?_
        go_simp
        refine hKc.out _ _ ⟨hc5, hc8, hc9, hd5, hd8, hd9, qa_0, qa_1, qa_2, qb_0, qb_1, qb_2⟩ (fun hHeld => ?_)
        clear hKc Kc
        try simp only [Act.put, List.setIfInBounds_toArray, List.set_cons_zero, List.set_cons_succ]
        refine stepD 17 rfl (by kernel_rfl) (fun Kc hKc => ?_)
        refine Eq.mpr (if_pos (by kernel_rfl)) ?_
        go_simp
        ((with_reducible refine (zmul_b s7 s8 _ a7 a8 n7 c7 n8 c8 l7 l8 _ _ h7 h8 hn7 hn8 (by omega) HI7 HI8 z1 HZ1).mono ?_); rintro e w1 ⟨s9, a9, n9, c9, rfl, h9, HV9, hn9, hE1⟩; replace qa := qa.ext hE1; replace qa_0 := qa.cell (i := 0) rfl; replace qa_1 := qa.cell (i := 1) rfl; replace qa_2 := qa.cell (i := 2) rfl; replace qb := qb.ext hE1; replace qb_0 := qb.cell (i := 0) rfl; replace qb_1 := qb.cell (i := 1) rfl; replace qb_2 := qb.cell (i := 2) rfl; replace s := s.ext hE1; replace s_0 := s.cell (i := 0) rfl; replace s_1 := s.cell (i := 1) rfl; replace s_f0 := s.free 0; replace s_f1 := s.free 1; replace s_lt := s.lt; replace r0 := r0.ext hE1; replace r0_0 := r0.cell (i := 0) rfl; replace r0_1 := r0.cell (i := 1) rfl; replace hc5 := cellE hE1 hc5; replace hc8 := cellE hE1 hc8; replace hc9 := cellE hE1 hc9; replace hd5 := cellE hE1 hd5; replace hd8 := cellE hE1 hd8; replace hd9 := cellE hE1 hd9; replace hx := hx.ext (Nat.le_refl _) hE1; replace h7 := h7.ext (Nat.le_refl _) hE1; replace h8 := h8.ext (Nat.le_refl _) hE1; replace h9 := h9.mono hsz (Kept.refl _ _); replace hsz := Nat.le_trans hsz hE1.size; replace hE0 := Ext.trans hE0 hE1)
        go_wp2_with fail
        refine hKc.out _ _ ⟨hc5, hc8, hc9, hd5, hd8, hd9, qa_0, qa_1, qa_2, qb_0, qb_1, qb_2⟩ (fun hHeld => ?_)
        clear hKc Kc
        try simp only [Act.put, List.setIfInBounds_toArray, List.set_cons_zero, List.set_cons_succ]
      all_goals
        refine stepD 18 rfl (by kernel_rfl) (fun Kc hKc => ?_)
        refine Eq.mpr (if_pos (by kernel_rfl)) ?_
        go_simp
        ((with_reducible refine (zadd_b (K := K + K + k) sx s9 _ ax a9 nx cx n9 c9 _ _ z0 z1 (hx.mono (Nat.zero_le _) (Kept.refl _ _)) (h9.mono (Nat.zero_le _) (Kept.refl _ _)) hnx (by omega) (by omega) HVx HV9 z2 HZ2).mono ?_); rintro e w1 ⟨s11, a11, n11, c11, rfl, h11, HV11, hn11, hE1⟩; replace qa := qa.ext hE1; replace qa_0 := qa.cell (i := 0) rfl; replace qa_1 := qa.cell (i := 1) rfl; replace qa_2 := qa.cell (i := 2) rfl; replace qb := qb.ext hE1; replace qb_0 := qb.cell (i := 0) rfl; replace qb_1 := qb.cell (i := 1) rfl; replace qb_2 := qb.cell (i := 2) rfl; replace s := s.ext hE1; replace s_0 := s.cell (i := 0) rfl; replace s_1 := s.cell (i := 1) rfl; replace s_f0 := s.free 0; replace s_f1 := s.free 1; replace s_lt := s.lt; replace r0 := r0.ext hE1; replace r0_0 := r0.cell (i := 0) rfl; replace r0_1 := r0.cell (i := 1) rfl; replace hc5 := cellE hE1 hc5; replace hc8 := cellE hE1 hc8; replace hc9 := cellE hE1 hc9; replace hd5 := cellE hE1 hd5; replace hd8 := cellE hE1 hd8; replace hd9 := cellE hE1 hd9; replace h11 := h11.mono hsz (Kept.refl _ _); replace hsz := Nat.le_trans hsz hE1.size; replace hE0 := Ext.trans hE0 hE1)
        go_wp2_with fail
        refine hKc.out _ _ ⟨hc5, hc8, hc9, hd5, hd8, hd9, qa_0, qa_1, qa_2, qb_0, qb_1, qb_2⟩ (fun hHeld => ?_)
        clear hKc Kc
        try simp only [Act.put, List.setIfInBounds_toArray, List.set_cons_zero, List.set_cons_succ]
        refine stepD 19 rfl (by kernel_rfl) (fun Kc hKc => ?_)
        refine Eq.mpr (if_pos (by kernel_rfl)) ?_
        go_simp
        refine hKc.out _ _ (by go_keep) (fun hHeld => ?_)
        clear hKc Kc
        try simp only [Act.put, List.setIfInBounds_toArray, List.set_cons_zero, List.set_cons_succ]
        refine wpAnyH_done (by kernel_rfl) ?_ _
        refine NoPanic.normal ?_
      all_goals
        have hK2 : Kept W.heap.size w1 ((w1.setCell ⟨w.heap.size + 1, 0, none⟩ (.bool s11)).setCell ⟨w.heap.size + 1, 1, none⟩ (.slice a11 n11 c11)) := Kept.trans (kept_set _ _ _ (by omega)) (kept_set _ _ _ (by omega))
        have h12 := h11.mono (Nat.le_refl _) hK2
        have s2 := (s.set 0 (.bool s11)).set 1 (.slice a11 n11 c11)
        have r2 := (r0.set_ne 0 (.bool s11) (show w.heap.size ≠ w.heap.size + 1 by omega)).set_ne 1 (.slice a11 n11 c11) (show w.heap.size ≠ w.heap.size + 1 by omega)
        have hE2 : Ext w ((w1.setCell ⟨w.heap.size + 1, 0, none⟩ (.bool s11)).setCell ⟨w.heap.size + 1, 1, none⟩ (.slice a11 n11 c11)) := Below.setCell (Below.setCell hE0 (p := ⟨w.heap.size + 1, 0, none⟩) (by simp) _) (p := ⟨w.heap.size + 1, 1, none⟩) (by simp) _
        have hs2 : W.heap.size ≤ ((w1.setCell ⟨w.heap.size + 1, 0, none⟩ (.bool s11)).setCell ⟨w.heap.size + 1, 1, none⟩ (.slice a11 n11 c11)).heap.size := by simp only [World.setCell, Array.size_modify]; exact hsz
        have H12 : Hid (∃ sx ax nx cx, Blk ((w1.setCell ⟨w.heap.size + 1, 0, none⟩ (.bool s11)).setCell ⟨w.heap.size + 1, 1, none⟩ (.slice a11 n11 c11)) (w.heap.size + 1) 25 #[.bool sx, .slice ax nx cx] ∧ NatS W.heap.size ((w1.setCell ⟨w.heap.size + 1, 0, none⟩ (.bool s11)).setCell ⟨w.heap.size + 1, 1, none⟩ (.slice a11 n11 c11)) ax nx cx (limbs (sumZ (k + 1) fun k => entry zss i k * entry zss' k j).natAbs) ∧ Hid (ival sx (limbs (sumZ (k + 1) fun k => entry zss i k * entry zss' k j).natAbs) = sumZ (k + 1) fun k => entry zss i k * entry zss' k j) ∧ nx ≤ K + K + (k + 1)) := Lib.hid ⟨s11, a11, n11, c11, s2, by rw [HSS.out]; exact h12, by rw [HSS.out]; exact HV11, by omega⟩
        have HR2 := Lib.hid r2
        have HE2 := Lib.hid hE2
        clear hK2 h12 s2 r2 hE2 hE0 hE9 hE1 h9 h11 hx h7 h8 hc5 hc8 hc9 hd5 hd8 hd9 qa qb qa_0 qa_1 qa_2 qb_0 qb_1 qb_2 s s_0 s_1 s_f0 s_f1 s_lt r0 r0_0 r0_1
        go_wp2_with fail
        go_roundg (nn - (k + 1))
        case measure => omega
        case rel => exact ⟨k + 1, by omega, rfl, by go_num, H12, HR2, HE2, hs2⟩
    · obtain rfl : k = nn := by omega
      have r0 := HRk.out
      have hrl1 : w.heap.size < W.heap.size := by omega
      have HF := Lib.hid (cellR_mk (w0 := w0) (z := sumZ k fun k => entry zss i k * entry zss' k j) HEk.out hrl1 hwr hx HVx (by omega) (by omega))
      skip
      skip
      replace s_0 := s.cell (i := 0) rfl
      replace s_1 := s.cell (i := 1) rfl
      replace r0_0 := r0.cell (i := 0) rfl
      replace r0_1 := r0.cell (i := 1) rfl
      replace r0_f0 := r0.free 0
      replace r0_f1 := r0.free 1
      replace r0_lt := r0.lt
      clear HSk HRk hx HVx
      have r02 : Blk (((wr).setCell ⟨w.heap.size, 0, none⟩ (.bool sx)).setCell ⟨w.heap.size, 1, none⟩ (.slice ax nx cx)) _ _ #[.bool sx, .slice ax nx cx] := ((r0).set 0 (.bool sx)).set 1 (.slice ax nx cx)
      have hr00 := r02.cell (i := 0) rfl
      have hr01 := r02.cell (i := 1) rfl
      go_wp2_with fail
      exact bodyPost_ret (v := .agg #[.bool sx, .slice ax nx cx]) (by simp [results, Tryz.results92, go_sem, hr00, hr01]) rfl HF.out
end Go.Proofs.YtbhenelehhiakaaGreat
/-
  qmat: the closure of Kronecker.
-/
namespace Go.Proofs.YtbhenelehhiakaaGreat
open Go.RowKit

def kronZ (zss zss' : List (List Int)) (r2 c2 i k : Nat) : Int := entry zss (i / r2) (k / c2) * entry zss' (i % r2) (k % c2)
set_option maxRecDepth 100000 in
set_option maxHeartbeats 8000000 in
theorem kron1_any (K : Nat) (hK : K + K ≤ 8796093022208) (w0 : World) (b : Bool) (a a2 : Option Addr) (n c n2 c2 : Nat) (d : Int) (zss : List (List Int)) (h : MatS K w0 b a n c a2 n2 c2 d zss) (b' : Bool) (a' a2' : Option Addr) (n' c' n2' c2' : Nat) (d' : Int) (zss' : List (List Int)) (h' : MatS K w0 b' a' n' c' a2' n2' c2' d' zss') (m m' : Nat) (hrow : Hid (∀ zs ∈ zss, zs.length = m)) (hrow' : Hid (∀ zs ∈ zss', zs.length = m'))
    (pa pr pc pb : Nat) (ta tr tc tb : TypeId) (qa : Blk w0 pa ta #[.bool b, .slice a n c, .slice a2 n2 c2]) (qr : Blk w0 pr tr #[.int .i64 (n2' : Int)]) (qc : Blk w0 pc tc #[.int .i64 (m' : Int)]) (qb : Blk w0 pb tb #[.bool b', .slice a' n' c', .slice a2' n2' c2']) (hN : n2 * n2' ≤ 1000) (hM : m * m' ≤ 1000) :
    CellOf Tryz.prog 94 #[.pointer (some ⟨pa, 0, none⟩), .pointer (some ⟨pr, 0, none⟩), .pointer (some ⟨pc, 0, none⟩), .pointer (some ⟨pb, 0, none⟩)] (n2 * n2') (m * m') (kronZ zss zss' n2' m') w0 := fun i j w hi hj hE => by
  show Calls Tryz.prog 94 #[.int .i64 (i : Int), .int .i64 (j : Int), .pointer (some ⟨pa, 0, none⟩), .pointer (some ⟨pr, 0, none⟩), .pointer (some ⟨pc, 0, none⟩), .pointer (some ⟨pb, 0, none⟩)] w _
  have hr0 : 0 < n2' := Nat.pos_of_ne_zero (fun e => by subst e; simp at hi)
  have hc0 : 0 < m' := Nat.pos_of_ne_zero (fun e => by subst e; simp at hj)
  have hid : i / n2' < n2 := Nat.div_lt_of_lt_mul (by rw [Nat.mul_comm]; exact hi)
  have hjd : j / m' < m := Nat.div_lt_of_lt_mul (by rw [Nat.mul_comm]; exact hj)
  have him : i % n2' < n2' := Nat.mod_lt _ hr0
  have hjm : j % m' < m' := Nat.mod_lt _ hc0
  obtain ⟨b5, o5, b7, o7, c5, s7, a7, n7, c7, l7, rfl, hb5, hb7, hc5, hc8, hc9, h7, hi7, hn7⟩ := h.entry hrow.out hid hjd
  obtain ⟨b6, o6, b8, o8, c6, s8, a8, n8, c8, l8, rfl, hb6, hb8, hd5, hd8, hd9, h8, hi8, hn8⟩ := h'.entry hrow'.out him hjm
  obtain ⟨y, hy⟩ : ∃ y, entry zss (i / n2') (j / m') * entry zss' (i % n2') (j % m') = y := ⟨_, rfl⟩
  show Calls _ _ _ _ (CellR w0 w (entry zss (i / n2') (j / m') * entry zss' (i % n2') (j % m')))
  rw [hy]
  have HY := Lib.hid hy
  have HI7 := Lib.hid hi7
  have HI8 := Lib.hid hi8
  have hib : i ≤ 1000 := by omega
  have hjb : j ≤ 1000 := by omega
  have hd1 := Nat.div_le_self i n2'
  have hd2 := Nat.div_le_self j m'
  have hd3 := Nat.mod_le i n2'
  have hd4 := Nat.mod_le j m'
  have e1 : (i : Int) / (n2' : Int) = ((i / n2' : Nat) : Int) := (Int.natCast_ediv ..).symm
  have e2 : (j : Int) / (m' : Int) = ((j / m' : Nat) : Int) := (Int.natCast_ediv ..).symm
  have e3 : (i : Int) % (n2' : Int) = ((i % n2' : Nat) : Int) := (Int.natCast_emod ..).symm
  have e4 : (j : Int) % (m' : Int) = ((j % m' : Nat) : Int) := (Int.natCast_emod ..).symm
  have f1 : (i : Int).tdiv (n2' : Int) = ((i / n2' : Nat) : Int) := by rw [Int.tdiv_eq_ediv_of_nonneg (by omega)]; exact e1
  have f2 : (j : Int).tdiv (m' : Int) = ((j / m' : Nat) : Int) := by rw [Int.tdiv_eq_ediv_of_nonneg (by omega)]; exact e2
  have f3 : (i : Int).tmod (n2' : Int) = ((i % n2' : Nat) : Int) := by rw [Int.tmod_eq_emod_of_nonneg (by omega)]; exact e3
  have f4 : (j : Int).tmod (m' : Int) = ((j % m' : Nat) : Int) := by rw [Int.tmod_eq_emod_of_nonneg (by omega)]; exact e4
  obtain ⟨i1, hi1⟩ : ∃ x, i / n2' = x := ⟨_, rfl⟩
  obtain ⟨j1, hj1⟩ : ∃ x, j / m' = x := ⟨_, rfl⟩
  obtain ⟨i2, hi2⟩ : ∃ x, i % n2' = x := ⟨_, rfl⟩
  obtain ⟨j2, hj2⟩ : ∃ x, j % m' = x := ⟨_, rfl⟩
  rw [hi1] at e1 f1 hid hc5 hd1
  rw [hj1] at e2 f2 hjd hc8 hc9 hd2
  rw [hi2] at e3 f3 him hd5 hd3
  rw [hj2] at e4 f4 hjm hd8 hd9 hd4
  have g1 : IntKind.i64.wrap (i1 : Int) = (i1 : Int) := IntWalk.i64_in _ (by omega)
  have g2 : IntKind.i64.wrap (j1 : Int) = (j1 : Int) := IntWalk.i64_in _ (by omega)
  have g3 : IntKind.i64.wrap (i2 : Int) = (i2 : Int) := IntWalk.i64_in _ (by omega)
  have g4 : IntKind.i64.wrap (j2 : Int) = (j2 : Int) := IntWalk.i64_in _ (by omega)
  have z1 : ((n2' : Int) == 0) = false := by simp; omega
  have z2 : ((m' : Int) == 0) = false := by simp; omega
  have z3 : ¬ ((n2' : Int) = 0) := by omega
  have y1 : (0 : Int) < (n2' : Int) := by omega
  have y2 : (0 : Int) < (m' : Int) := by omega
  have y3 : (0 : Int) ≤ (i : Int) := by omega
  have y4 : (0 : Int) ≤ (j : Int) := by omega
  have y5 : n2' ≠ 0 := by omega
  have y6 : m' ≠ 0 := by omega
  have z4 : ¬ ((m' : Int) = 0) := by omega
  have hlw := hE.size
  have hp1 : (i1 : Int) < (n2 : Int) := by omega
  have hp2 : (j1 : Int) < (m : Int) := by omega
  have hp3 : (i2 : Int) < (n2' : Int) := by omega
  have hp4 : (j2 : Int) < (m' : Int) := by omega
  have HE := Lib.hid hE
  clear hy hi7 hi8 h h' hrow hrow' hi1 hi2 hj1 hj2 hi hj hN hM hd1 hd2 hd3 hd4
  go_enter Tryz.func94, Tryz.ntmps94
  go_wp2_with fail
  have r0 := Blk.new w 25 #[.bool false, .slice none 0 0]
  have hEW : Ext w (w.alloc (Obj.cells #[.bool false, .slice none 0 0] 25)) := ((Below.refl _ w).alloc (by simp) _)
  generalize hgW : w.alloc (Obj.cells #[.bool false, .slice none 0 0] 25) = W at *
  clear hgW
  replace r0_0 := r0.cell (i := 0) rfl
  replace r0_1 := r0.cell (i := 1) rfl
  replace r0_f0 := r0.free 0
  replace r0_f1 := r0.free 1
  replace r0_lt := r0.lt
  have hE0 : Ext w W.drew := Ext.trans hEW (Below.refl _ _).drew
  have hE9 := Ext.trans HE.out hE0
  replace r0 := r0.ext (show Ext W W.drew from (Below.refl _ _).drew)
  skip
  skip
  skip
  skip
  have la := qa.lt
  have lr := qr.lt
  have lc := qc.lt
  have lb := qb.lt
  replace qa := qa.ext hE9; replace qa_0 := qa.cell (i := 0) rfl; replace qa_1 := qa.cell (i := 1) rfl; replace qa_2 := qa.cell (i := 2) rfl; replace qr := qr.ext hE9; replace qr_0 := qr.cell (i := 0) rfl; replace qc := qc.ext hE9; replace qc_0 := qc.cell (i := 0) rfl; replace qb := qb.ext hE9; replace qb_0 := qb.cell (i := 0) rfl; replace qb_1 := qb.cell (i := 1) rfl; replace qb_2 := qb.cell (i := 2) rfl
  replace hc5 := cellE hE9 hc5
  replace hc8 := cellE hE9 hc8
  replace hc9 := cellE hE9 hc9
  replace hd5 := cellE hE9 hd5
  replace hd8 := cellE hE9 hd8
  replace hd9 := cellE hE9 hd9
  replace h7 := h7.ext (Nat.le_refl _) hE9
  replace h8 := h8.ext (Nat.le_refl _) hE9
  have hsz : W.heap.size ≤ W.drew.heap.size := Nat.le_refl _
  have hrl : w.heap.size < W.heap.size := r0_lt
  have na : ¬ pa = w.heap.size := by omega
  have nr : ¬ pr = w.heap.size := by omega
  have nc : ¬ pc = w.heap.size := by omega
  have nb : ¬ pb = w.heap.size := by omega
  have n5a : ¬ b5 = w.heap.size := by omega
  have n7a : ¬ b7 = w.heap.size := by omega
  have n6a : ¬ b6 = w.heap.size := by omega
  have n8a : ¬ b8 = w.heap.size := by omega
  have na' : ¬ w.heap.size = pa := by omega
  have nr' : ¬ w.heap.size = pr := by omega
  have nc' : ¬ w.heap.size = pc := by omega
  have nb' : ¬ w.heap.size = pb := by omega
  have n5b : ¬ w.heap.size = b5 := by omega
  have n7b : ¬ w.heap.size = b7 := by omega
  have n6b : ¬ w.heap.size = b6 := by omega
  have n8b : ¬ w.heap.size = b8 := by omega
  replace r0_0 := r0.cell (i := 0) rfl
  replace r0_1 := r0.cell (i := 1) rfl
  replace r0_f0 := r0.free 0
  replace r0_f1 := r0.free 1
  replace r0_lt := r0.lt
  go_region_held3 (fun w' => w'.cell? ⟨b5, o5 + i1, none⟩ = some (.slice (some ⟨b7, o7, none⟩) m c5) ∧ w'.cell? ⟨b7, o7 + j1 * 2, none⟩ = some (.bool s7) ∧ w'.cell? ⟨b7, o7 + j1 * 2 + 1, none⟩ = some (.slice a7 n7 c7) ∧ w'.cell? ⟨b6, o6 + i2, none⟩ = some (.slice (some ⟨b8, o8, none⟩) m' c6) ∧ w'.cell? ⟨b8, o8 + j2 * 2, none⟩ = some (.bool s8) ∧ w'.cell? ⟨b8, o8 + j2 * 2 + 1, none⟩ = some (.slice a8 n8 c8) ∧ w'.cell? ⟨pa, 0, none⟩ = some (.bool b) ∧ w'.cell? ⟨pa, 1, none⟩ = some (.slice a n c) ∧ w'.cell? ⟨pa, 2, none⟩ = some (.slice (some ⟨b5, o5, none⟩) n2 c2) ∧ w'.cell? ⟨pr, 0, none⟩ = some (.int .i64 (n2' : Int)) ∧ w'.cell? ⟨pc, 0, none⟩ = some (.int .i64 (m' : Int)) ∧ w'.cell? ⟨pb, 0, none⟩ = some (.bool b') ∧ w'.cell? ⟨pb, 1, none⟩ = some (.slice a' n' c') ∧ w'.cell? ⟨pb, 2, none⟩ = some (.slice (some ⟨b6, o6, none⟩) n2' c2')) (first | exact ⟨hc5, hc8, hc9, hd5, hd8, hd9, qa_0, qa_1, qa_2, qr_0, qc_0, qb_0, qb_1, qb_2⟩ | go_keep)
    (first
    | (go_at_call 71; (with_reducible refine (zmul_b s7 s8 _ a7 a8 n7 c7 n8 c8 l7 l8 _ _ h7 h8 hn7 hn8 hK HI7 HI8 y HY).mono ?_); rintro e w1 ⟨s9, a9, n9, c9, rfl, h9, HV9, hn9, hE1⟩; replace qa := qa.ext hE1; replace qa_0 := qa.cell (i := 0) rfl; replace qa_1 := qa.cell (i := 1) rfl; replace qa_2 := qa.cell (i := 2) rfl; replace qr := qr.ext hE1; replace qr_0 := qr.cell (i := 0) rfl; replace qc := qc.ext hE1; replace qc_0 := qc.cell (i := 0) rfl; replace qb := qb.ext hE1; replace qb_0 := qb.cell (i := 0) rfl; replace qb_1 := qb.cell (i := 1) rfl; replace qb_2 := qb.cell (i := 2) rfl; replace r0 := r0.ext hE1; replace r0_0 := r0.cell (i := 0) rfl; replace r0_1 := r0.cell (i := 1) rfl; replace r0_f0 := r0.free 0; replace r0_f1 := r0.free 1; replace r0_lt := r0.lt; replace hc5 := cellE hE1 hc5; replace hc8 := cellE hE1 hc8; replace hc9 := cellE hE1 hc9; replace hd5 := cellE hE1 hd5; replace hd8 := cellE hE1 hd8; replace hd9 := cellE hE1 hd9; replace h9 := h9.mono hsz (Kept.refl _ _); replace hsz := Nat.le_trans hsz hE1.size; replace hE0 := Ext.trans hE0 hE1))
  all_goals
    have HF := Lib.hid (cellR_mk (w0 := w0) (z := y) hE0 hrl hsz h9 HV9 (by omega) hEW.size)
    have r02 : Blk (((w1).setCell ⟨w.heap.size, 0, none⟩ (.bool s9)).setCell ⟨w.heap.size, 1, none⟩ (.slice a9 n9 c9)) _ _ #[.bool s9, .slice a9 n9 c9] := ((r0).set 0 (.bool s9)).set 1 (.slice a9 n9 c9)
    have hr00 := r02.cell (i := 0) rfl
    have hr01 := r02.cell (i := 1) rfl
    go_wp2_with fail
    exact bodyPost_ret (v := .agg #[.bool s9, .slice a9 n9 c9]) (by simp [results, Tryz.results94, go_sem, hr00, hr01]) rfl HF.out
end Go.Proofs.YtbhenelehhiakaaGreat
