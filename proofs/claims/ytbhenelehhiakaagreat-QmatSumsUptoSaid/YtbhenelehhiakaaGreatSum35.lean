/-
  qmat: the closures of Scale, Add, Sub, Mul.
-/
import Derived.Test.YtbhenelehhiakaaGreatSum34
import Derived.Test.YtbhenelehhiakaaGreatSum31
import Derived.Test.YtbhenelehhiakaaGreatSum29
import Derived.Test.YtbhenelehhiakaaGreatSum24
import Derived.Test.YtbhenelehhiakaaGreatSum33
import Derived.Test.YtbhenelehhiakaaGreatSum28
set_option linter.unusedVariables false
set_option linter.unusedSimpArgs false
namespace Go.Proofs.YtbhenelehhiakaaGreat
open Go.RowKit

/-- one entry -/
def entry (zss : List (List Int)) (i j : Nat) : Int := (((zss[i]?).getD [])[j]?).getD 0
theorem MatS.entry {K : Nat} {w : World} {b : Bool} {a a2 : Option Addr} {n c n2 c2 m : Nat} {d : Int} {zss : List (List Int)} (h : MatS K w b a n c a2 n2 c2 d zss) (hrow : ∀ zs ∈ zss, zs.length = m) {i j : Nat} (hi : i < n2) (hj : j < m) :
    ∃ b5 o5 b7 o7 c5 s7 a7 n7 c7 l7, a2 = some ⟨b5, o5, none⟩ ∧ b5 < w.heap.size ∧ b7 < w.heap.size ∧ w.cell? ⟨b5, o5 + i, none⟩ = some (.slice (some ⟨b7, o7, none⟩) m c5) ∧ w.cell? ⟨b7, o7 + j * 2, none⟩ = some (.bool s7) ∧ w.cell? ⟨b7, o7 + j * 2 + 1, none⟩ = some (.slice a7 n7 c7) ∧ NatS 0 w a7 n7 c7 l7 ∧ ival s7 l7 = Proofs.YtbhenelehhiakaaGreat.entry zss i j ∧ n7 ≤ K := by
  obtain ⟨l0, h1, h2, h3, h4⟩ := h
  obtain ⟨b5, o5, a5, n5, c5, zs, rfl, hb5, hzs, hc5, hZ⟩ := Sl.getRow h4 hi
  have hn5 : n5 = m := by rw [← hZ.len]; exact hrow zs (List.mem_of_getElem? hzs)
  subst hn5
  obtain ⟨b7, o7, s7, a7, n7, c7, l7, z, rfl, hb7, hz7, hc8, hc9, h7, hi7, hn7⟩ := hZ.getInt (i := j) hj
  refine ⟨b5, o5, b7, o7, c5, s7, a7, n7, c7, l7, rfl, hb5, hb7, hc5, hc8, hc9, h7, ?_, hn7⟩
  rw [hi7]; unfold Proofs.YtbhenelehhiakaaGreat.entry; rw [hzs]; show z = (zs[j]?).getD 0; rw [hz7]; rfl
/-- an integer in new memory, as a letter -/
def RIntB (K : Nat) (w : World) (z : Int) (e : Ending) (w' : World) : Prop := ∃ s a n c, e = .returned (.agg #[.bool s, .slice a n c]) ∧ NatS w.heap.size w' a n c (limbs z.natAbs) ∧ Hid (ival s (limbs z.natAbs) = z) ∧ n ≤ K ∧ Ext w w'
theorem RInt.b {w w' : World} {z : Int} {e : Ending} (h : RInt w z e w') {K : Nat} (hK : nl z.natAbs ≤ K) : RIntB K w z e w' := by
  obtain ⟨a, n, c, rfl, h1, hE⟩ := h
  exact ⟨_, a, n, c, rfl, h1, Lib.hid (ival_norm _), by have := len_norm h1; omega, hE⟩
theorem zmul_b {K K2 : Nat} (b b2 : Bool) (w : World) (a a2 : Option Addr) (n c n2 c2 : Nat) (l l2 : Nt) (z z2 : Int) (h : NatS 0 w a n c l) (h2 : NatS 0 w a2 n2 c2 l2) (hn : n ≤ K) (hn2 : n2 ≤ K2) (hK : K + K2 ≤ 8796093022208) (hz : Hid (ival b l = z)) (hz2 : Hid (ival b2 l2 = z2)) (y : Int) (hy : Hid (z * z2 = y)) :
    Calls Tryz.prog 71 #[.agg #[.bool b, .slice a n c], .agg #[.bool b2, .slice a2 n2 c2]] w (RIntB (K + K2) w y) :=
  (zintMul_z b b2 0 w a a2 n c n2 c2 l l2 z z2 h h2 (by omega) (by omega) hz hz2).mono fun e w' hr => by
    rw [hy.out] at hr
    refine hr.b ?_
    rw [← hy.out, Int.natAbs_mul]
    have g2 := nl_mul z.natAbs z2.natAbs
    have g3 := nl_of h hz
    have g4 := nl_of h2 hz2
    omega
theorem nl_addI (x y : Int) : nl (x + y).natAbs ≤ max (nl x.natAbs) (nl y.natAbs) + 1 := by
  have h : (x + y).natAbs ≤ x.natAbs + y.natAbs := Int.natAbs_add_le x y
  refine Nat.le_trans (nl_mono h) ?_
  refine nl_le_of_lt ?_
  have h1 := lt_pow_nl x.natAbs
  have h2 := lt_pow_nl y.natAbs
  have h3 : 4294967296 ^ nl x.natAbs ≤ 4294967296 ^ max (nl x.natAbs) (nl y.natAbs) := Nat.pow_le_pow_right (by decide) (Nat.le_max_left _ _)
  have h4 : 4294967296 ^ nl y.natAbs ≤ 4294967296 ^ max (nl x.natAbs) (nl y.natAbs) := Nat.pow_le_pow_right (by decide) (Nat.le_max_right _ _)
  generalize 4294967296 ^ nl x.natAbs = p1 at *
  generalize 4294967296 ^ nl y.natAbs = p2 at *
  rw [Nat.pow_succ]
  generalize 4294967296 ^ max (nl x.natAbs) (nl y.natAbs) = p at *
  omega
theorem zadd_b {K : Nat} (b b2 : Bool) (w : World) (a a2 : Option Addr) (n c n2 c2 : Nat) (l l2 : Nt) (z z2 : Int) (h : NatS 0 w a n c l) (h2 : NatS 0 w a2 n2 c2 l2) (hn : n ≤ K) (hn2 : n2 ≤ K) (hK : K + 1 ≤ 8796093022208) (hz : Hid (ival b l = z)) (hz2 : Hid (ival b2 l2 = z2)) (y : Int) (hy : Hid (z + z2 = y)) :
    Calls Tryz.prog 93 #[.agg #[.bool b, .slice a n c], .agg #[.bool b2, .slice a2 n2 c2]] w (RIntB (K + 1) w y) :=
  (zintAdd_z b b2 0 w a a2 n c n2 c2 l l2 z z2 h h2 (by omega) (by omega) hz hz2).mono fun e w' hr => by
    rw [hy.out] at hr
    refine hr.b ?_
    rw [← hy.out]
    have g2 := nl_addI z z2
    have g3 := nl_of h hz
    have g4 := nl_of h2 hz2
    omega

theorem cellR_mk {w0 w w5 : World} {B : Nat} {s : Bool} {a : Option Addr} {n c : Nat} {z : Int} (hE0 : Ext w w5) (hrl : w.heap.size < B) (hsz : B ≤ w5.heap.size) (h : NatS B w5 a n c (limbs z.natAbs)) (hv : Hid (ival s (limbs z.natAbs) = z)) (hn : n ≤ 8796093022208) (_ : w.heap.size ≤ B) :
    CellR w0 w z (.returned (.agg #[.bool s, .slice a n c])) ((w5.setCell ⟨w.heap.size, 0, none⟩ (.bool s)).setCell ⟨w.heap.size, 1, none⟩ (.slice a n c)) :=
  ⟨s, a, n, c, _, rfl, .inr ((h.mono (Nat.le_refl _) (Kept.trans (kept_set _ _ _ hrl) (kept_set _ _ _ hrl))).mono (by omega) (Kept.refl _ _)), hv.out, hn, Below.setCell (Below.setCell hE0 (p := ⟨w.heap.size, 0, none⟩) (Nat.le_refl _) _) (p := ⟨w.heap.size, 1, none⟩) (Nat.le_refl _) _⟩

set_option maxRecDepth 100000 in
set_option maxHeartbeats 8000000 in
theorem scale1_any (K K2 : Nat) (hK : K + K2 ≤ 8796093022208) (w0 : World) (b : Bool) (a a2 : Option Addr) (n c n2 c2 : Nat) (d : Int) (zss : List (List Int)) (h : MatS K w0 b a n c a2 n2 c2 d zss) (m : Nat) (hrow : Hid (∀ zs ∈ zss, zs.length = m)) (s : Bool) (ax : Option Addr) (nx cx : Nat) (v2 v3 : Value) (lx : Nt) (x : Int) (hx : NatS 0 w0 ax nx cx lx) (hnx : nx ≤ K2) (hxv : Hid (ival s lx = x))
    (pa pb : Nat) (ta tb : TypeId) (qa : Blk w0 pa ta #[.bool b, .slice a n c, .slice a2 n2 c2]) (qb : Blk w0 pb tb #[.bool s, .slice ax nx cx, v2, v3]) (r : Nat) (hr : r ≤ n2) (hn2 : n2 ≤ 1099511627776) (hm : m ≤ 1099511627776) :
    CellOf Tryz.prog 100 #[.pointer (some ⟨pa, 0, none⟩), .pointer (some ⟨pb, 0, none⟩)] r m (fun i j => entry zss i j * x) w0 := fun i j w hi hj hE => by
  show Calls Tryz.prog 100 #[.int .i64 (i : Int), .int .i64 (j : Int), .pointer (some ⟨pa, 0, none⟩), .pointer (some ⟨pb, 0, none⟩)] w _
  obtain ⟨b5, o5, b7, o7, c5, s7, a7, n7, c7, l7, rfl, hb5, hb7, hc5, hc8, hc9, h7, hi7, hn7⟩ := h.entry hrow.out (show i < n2 by omega) hj
  obtain ⟨y, hy⟩ : ∃ y, entry zss i j * x = y := ⟨_, rfl⟩
  show Calls _ _ _ _ (CellR w0 w (entry zss i j * x))
  rw [hy]
  have HY := Lib.hid hy
  have HI7 := Lib.hid hi7
  have hlw := hE.size
  have hp1 : (i : Int) < (n2 : Int) := by omega
  have hp2 : (j : Int) < (m : Int) := by omega
  have HE := Lib.hid hE
  clear hy hi7 h hrow
  go_enter Tryz.func100, Tryz.ntmps100
  go_wp2_with fail
  have r0 := Blk.new w 25 #[.bool false, .slice none 0 0]
  have hEW : Ext w (w.alloc (Obj.cells #[.bool false, .slice none 0 0] 25)) := ((Below.refl _ w).alloc (by simp) _)
  generalize hgW : w.alloc (Obj.cells #[.bool false, .slice none 0 0] 25) = W at *
  clear hgW
  replace r0_0 := r0.cell (i := 0) rfl
  replace r0_1 := r0.cell (i := 1) rfl
  replace r0_f0 := r0.free 0
  replace r0_f1 := r0.free 1
  replace r0_lt := r0.lt
  have hE0 : Ext w W.drew := Ext.trans hEW (Below.refl _ _).drew
  have hE9 := Ext.trans HE.out hE0
  replace r0 := r0.ext (show Ext W W.drew from (Below.refl _ _).drew)
  skip
  skip
  have la := qa.lt
  have lb := qb.lt
  replace qa := qa.ext hE9; replace qa_0 := qa.cell (i := 0) rfl; replace qa_1 := qa.cell (i := 1) rfl; replace qa_2 := qa.cell (i := 2) rfl; replace qb := qb.ext hE9; replace qb_0 := qb.cell (i := 0) rfl; replace qb_1 := qb.cell (i := 1) rfl; replace qb_2 := qb.cell (i := 2) rfl; replace qb_3 := qb.cell (i := 3) rfl
  replace hc5 := cellE hE9 hc5
  replace hc8 := cellE hE9 hc8
  replace hc9 := cellE hE9 hc9
  replace h7 := h7.ext (Nat.le_refl _) hE9
  replace hx := hx.ext (Nat.le_refl _) hE9
  have hsz : W.heap.size ≤ W.drew.heap.size := Nat.le_refl _
  have hrl : w.heap.size < W.heap.size := r0_lt
  have na : ¬ pa = w.heap.size := by omega
  have nb : ¬ pb = w.heap.size := by omega
  have n5a : ¬ b5 = w.heap.size := by omega
  have n7a : ¬ b7 = w.heap.size := by omega
  have na' : ¬ w.heap.size = pa := by omega
  have nb' : ¬ w.heap.size = pb := by omega
  have n5b : ¬ w.heap.size = b5 := by omega
  have n7b : ¬ w.heap.size = b7 := by omega
  replace r0_0 := r0.cell (i := 0) rfl
  replace r0_1 := r0.cell (i := 1) rfl
  replace r0_f0 := r0.free 0
  replace r0_f1 := r0.free 1
  replace r0_lt := r0.lt
  go_region_held3 (fun w' => w'.cell? ⟨b5, o5 + i, none⟩ = some (.slice (some ⟨b7, o7, none⟩) m c5) ∧ w'.cell? ⟨b7, o7 + j * 2, none⟩ = some (.bool s7) ∧ w'.cell? ⟨b7, o7 + j * 2 + 1, none⟩ = some (.slice a7 n7 c7) ∧ w'.cell? ⟨pa, 0, none⟩ = some (.bool b) ∧ w'.cell? ⟨pa, 1, none⟩ = some (.slice a n c) ∧ w'.cell? ⟨pa, 2, none⟩ = some (.slice (some ⟨b5, o5, none⟩) n2 c2) ∧ w'.cell? ⟨pb, 0, none⟩ = some (.bool s) ∧ w'.cell? ⟨pb, 1, none⟩ = some (.slice ax nx cx) ∧ w'.cell? ⟨pb, 2, none⟩ = some (v2) ∧ w'.cell? ⟨pb, 3, none⟩ = some (v3)) (first | exact ⟨hc5, hc8, hc9, qa_0, qa_1, qa_2, qb_0, qb_1, qb_2, qb_3⟩ | go_keep)
    (first
    | (go_at_call 71; (with_reducible refine (zmul_b s7 s _ a7 ax n7 c7 nx cx l7 lx _ x h7 hx hn7 hnx hK HI7 hxv y HY).mono ?_); rintro e w1 ⟨s8, a8, n8, c8, rfl, h8, HV8, hn8, hE1⟩; replace qa := qa.ext hE1; replace qa_0 := qa.cell (i := 0) rfl; replace qa_1 := qa.cell (i := 1) rfl; replace qa_2 := qa.cell (i := 2) rfl; replace qb := qb.ext hE1; replace qb_0 := qb.cell (i := 0) rfl; replace qb_1 := qb.cell (i := 1) rfl; replace qb_2 := qb.cell (i := 2) rfl; replace qb_3 := qb.cell (i := 3) rfl; replace r0 := r0.ext hE1; replace r0_0 := r0.cell (i := 0) rfl; replace r0_1 := r0.cell (i := 1) rfl; replace r0_f0 := r0.free 0; replace r0_f1 := r0.free 1; replace r0_lt := r0.lt; replace hc5 := cellE hE1 hc5; replace hc8 := cellE hE1 hc8; replace hc9 := cellE hE1 hc9; replace h8 := h8.mono hsz (Kept.refl _ _); replace hsz := Nat.le_trans hsz hE1.size; replace hE0 := Ext.trans hE0 hE1))
  have HF := Lib.hid (cellR_mk (w0 := w0) (z := y) hE0 hrl hsz h8 HV8 (by omega) hEW.size)
  have r02 : Blk (((w1).setCell ⟨w.heap.size, 0, none⟩ (.bool s8)).setCell ⟨w.heap.size, 1, none⟩ (.slice a8 n8 c8)) _ _ #[.bool s8, .slice a8 n8 c8] := ((r0).set 0 (.bool s8)).set 1 (.slice a8 n8 c8)
  have hr00 := r02.cell (i := 0) rfl
  have hr01 := r02.cell (i := 1) rfl
  go_wp2_with fail
  exact bodyPost_ret (v := .agg #[.bool s8, .slice a8 n8 c8]) (by simp [results, Tryz.results100, go_sem, hr00, hr01]) rfl HF.out

/-- an operation of two integers: a bound of its result's length -/
abbrev OpB (P : Program) (f : Nat) (op : Int → Int → Int) (K : Nat) : Prop := ∀ (b b2 : Bool) (w : World) (a a2 : Option Addr) (n c n2 c2 : Nat) (l l2 : Nt) (z z2 : Int), NatS 0 w a n c l → NatS 0 w a2 n2 c2 l2 → n ≤ K → n2 ≤ K → Hid (ival b l = z) → Hid (ival b2 l2 = z2) →
  Calls P f #[.agg #[.bool b, .slice a n c], .agg #[.bool b2, .slice a2 n2 c2]] w (RIntB 8796093022208 w (op z z2))

set_option maxRecDepth 100000 in
set_option maxHeartbeats 8000000 in
theorem joined1_any (K fid : Nat) (op : Int → Int → Int) (hop : OpB Tryz.prog fid op (K + K)) (hen : Enters Tryz.prog fid) (hK : K + K ≤ 8796093022208) (w0 : World) (b : Bool) (a a2 : Option Addr) (n c n2 c2 : Nat) (d : Int) (zss : List (List Int)) (h : MatS K w0 b a n c a2 n2 c2 d zss) (b' : Bool) (a' a2' : Option Addr) (n' c' n2' c2' : Nat) (d' : Int) (zss' : List (List Int)) (h' : MatS K w0 b' a' n' c' a2' n2' c2' d' zss') (m : Nat) (hrow : Hid (∀ zs ∈ zss, zs.length = m)) (hrow' : Hid (∀ zs ∈ zss', zs.length = m))
    (po pa pb : Nat) (tq ta tb : TypeId) (qo : Blk w0 po tq #[.func (.func fid) #[] #[]]) (qa : Blk w0 pa ta #[.bool b, .slice a n c, .slice a2 n2 c2]) (qb : Blk w0 pb tb #[.bool b', .slice a' n' c', .slice a2' n2' c2']) (r : Nat) (hr : r ≤ n2) (hr' : r ≤ n2') (hn2 : n2 ≤ 1099511627776) (hn2' : n2' ≤ 1099511627776) (hm : m ≤ 1099511627776) :
    CellOf Tryz.prog 131 #[.pointer (some ⟨po, 0, none⟩), .pointer (some ⟨pa, 0, none⟩), .pointer (some ⟨pb, 0, none⟩)] r m (fun i j => op (entry zss i j * d') (entry zss' i j * d)) w0 := fun i j w hi hj hE => by
  show Calls Tryz.prog 131 #[.int .i64 (i : Int), .int .i64 (j : Int), .pointer (some ⟨po, 0, none⟩), .pointer (some ⟨pa, 0, none⟩), .pointer (some ⟨pb, 0, none⟩)] w _
  obtain ⟨b5, o5, b7, o7, c5, s7, a7, n7, c7, l7, rfl, hb5, hb7, hc5, hc8, hc9, h7, hi7, hn7⟩ := h.entry hrow.out (show i < n2 by omega) hj
  obtain ⟨b6, o6, b8, o8, c6, s8, a8, n8, c8, l8, rfl, hb6, hb8, hd5, hd8, hd9, h8, hi8, hn8⟩ := h'.entry hrow'.out (show i < n2' by omega) hj
  obtain ⟨l0, g1, g2, g3, -⟩ := h
  obtain ⟨l0', g1', g2', g3', -⟩ := h'
  obtain ⟨z1, hz1⟩ : ∃ y, entry zss i j * d' = y := ⟨_, rfl⟩
  obtain ⟨z2, hz2⟩ : ∃ y, entry zss' i j * d = y := ⟨_, rfl⟩
  show Calls _ _ _ _ (CellR w0 w (op (entry zss i j * d') (entry zss' i j * d)))
  rw [hz1, hz2]
  have HZ1 := Lib.hid hz1
  have HZ2 := Lib.hid hz2
  have HI7 := Lib.hid hi7
  have HI8 := Lib.hid hi8
  have G2 := Lib.hid g2
  have G2' := Lib.hid g2'
  have hlw := hE.size
  have hp1 : (i : Int) < (n2 : Int) := by omega
  have hp2 : (j : Int) < (m : Int) := by omega
  have hp3 : (i : Int) < (n2' : Int) := by omega
  have HE := Lib.hid hE
  have HOP := Lib.hid hop
  have hen' : ∀ args w, (callFunc fid args).run Tryz.prog w = .ok (.enter fid args) w := hen
  clear hz1 hz2 hi7 hi8 g2 g2' hrow hrow' hop hen
  go_enter Tryz.func131, Tryz.ntmps131
  go_wp2_with fail
  have r0 := Blk.new w 25 #[.bool false, .slice none 0 0]
  have hEW : Ext w (w.alloc (Obj.cells #[.bool false, .slice none 0 0] 25)) := ((Below.refl _ w).alloc (by simp) _)
  generalize hgW : w.alloc (Obj.cells #[.bool false, .slice none 0 0] 25) = W at *
  clear hgW
  replace r0_0 := r0.cell (i := 0) rfl
  replace r0_1 := r0.cell (i := 1) rfl
  replace r0_f0 := r0.free 0
  replace r0_f1 := r0.free 1
  replace r0_lt := r0.lt
  have hE0 : Ext w W.drew := Ext.trans hEW (Below.refl _ _).drew
  have hE9 := Ext.trans HE.out hE0
  replace r0 := r0.ext (show Ext W W.drew from (Below.refl _ _).drew)
  skip
  skip
  skip
  have lo := qo.lt
  have la := qa.lt
  have lb := qb.lt
  replace qo := qo.ext hE9; replace qo_0 := qo.cell (i := 0) rfl; replace qa := qa.ext hE9; replace qa_0 := qa.cell (i := 0) rfl; replace qa_1 := qa.cell (i := 1) rfl; replace qa_2 := qa.cell (i := 2) rfl; replace qb := qb.ext hE9; replace qb_0 := qb.cell (i := 0) rfl; replace qb_1 := qb.cell (i := 1) rfl; replace qb_2 := qb.cell (i := 2) rfl
  replace hc5 := cellE hE9 hc5
  replace hc8 := cellE hE9 hc8
  replace hc9 := cellE hE9 hc9
  replace hd5 := cellE hE9 hd5
  replace hd8 := cellE hE9 hd8
  replace hd9 := cellE hE9 hd9
  replace h7 := h7.ext (Nat.le_refl _) hE9
  replace h8 := h8.ext (Nat.le_refl _) hE9
  replace g1 := g1.ext (Nat.le_refl _) hE9
  replace g1' := g1'.ext (Nat.le_refl _) hE9
  have hsz : W.heap.size ≤ W.drew.heap.size := Nat.le_refl _
  have hrl : w.heap.size < W.heap.size := r0_lt
  have no : ¬ po = w.heap.size := by omega
  have na : ¬ pa = w.heap.size := by omega
  have nb : ¬ pb = w.heap.size := by omega
  have n5a : ¬ b5 = w.heap.size := by omega
  have n7a : ¬ b7 = w.heap.size := by omega
  have n6a : ¬ b6 = w.heap.size := by omega
  have n8a : ¬ b8 = w.heap.size := by omega
  have no' : ¬ w.heap.size = po := by omega
  have na' : ¬ w.heap.size = pa := by omega
  have nb' : ¬ w.heap.size = pb := by omega
  have n5b : ¬ w.heap.size = b5 := by omega
  have n7b : ¬ w.heap.size = b7 := by omega
  have n6b : ¬ w.heap.size = b6 := by omega
  have n8b : ¬ w.heap.size = b8 := by omega
  replace r0_0 := r0.cell (i := 0) rfl
  replace r0_1 := r0.cell (i := 1) rfl
  replace r0_f0 := r0.free 0
  replace r0_f1 := r0.free 1
  replace r0_lt := r0.lt
  go_region_held3 (fun w' => w'.cell? ⟨b5, o5 + i, none⟩ = some (.slice (some ⟨b7, o7, none⟩) m c5) ∧ w'.cell? ⟨b7, o7 + j * 2, none⟩ = some (.bool s7) ∧ w'.cell? ⟨b7, o7 + j * 2 + 1, none⟩ = some (.slice a7 n7 c7) ∧ w'.cell? ⟨b6, o6 + i, none⟩ = some (.slice (some ⟨b8, o8, none⟩) m c6) ∧ w'.cell? ⟨b8, o8 + j * 2, none⟩ = some (.bool s8) ∧ w'.cell? ⟨b8, o8 + j * 2 + 1, none⟩ = some (.slice a8 n8 c8) ∧ w'.cell? ⟨po, 0, none⟩ = some (.func (.func fid) #[] #[]) ∧ w'.cell? ⟨pa, 0, none⟩ = some (.bool b) ∧ w'.cell? ⟨pa, 1, none⟩ = some (.slice a n c) ∧ w'.cell? ⟨pa, 2, none⟩ = some (.slice (some ⟨b5, o5, none⟩) n2 c2) ∧ w'.cell? ⟨pb, 0, none⟩ = some (.bool b') ∧ w'.cell? ⟨pb, 1, none⟩ = some (.slice a' n' c') ∧ w'.cell? ⟨pb, 2, none⟩ = some (.slice (some ⟨b6, o6, none⟩) n2' c2')) (first | exact ⟨hc5, hc8, hc9, hd5, hd8, hd9, qo_0, qa_0, qa_1, qa_2, qb_0, qb_1, qb_2⟩ | go_keep)
    (first
    | (go_at_call 71; (with_reducible refine (zmul_b s7 b' _ a7 a' n7 c7 n' c' l7 l0' _ d' h7 g1' hn7 g3' hK HI7 G2' z1 HZ1).mono ?_); rintro e w1 ⟨s9, a9, n9, c9, rfl, h9, HV9, hn9, hE1⟩; replace qo := qo.ext hE1; replace qo_0 := qo.cell (i := 0) rfl; replace qa := qa.ext hE1; replace qa_0 := qa.cell (i := 0) rfl; replace qa_1 := qa.cell (i := 1) rfl; replace qa_2 := qa.cell (i := 2) rfl; replace qb := qb.ext hE1; replace qb_0 := qb.cell (i := 0) rfl; replace qb_1 := qb.cell (i := 1) rfl; replace qb_2 := qb.cell (i := 2) rfl; replace r0 := r0.ext hE1; replace r0_0 := r0.cell (i := 0) rfl; replace r0_1 := r0.cell (i := 1) rfl; replace r0_f0 := r0.free 0; replace r0_f1 := r0.free 1; replace r0_lt := r0.lt; replace hc5 := cellE hE1 hc5; replace hc8 := cellE hE1 hc8; replace hc9 := cellE hE1 hc9; replace hd5 := cellE hE1 hd5; replace hd8 := cellE hE1 hd8; replace hd9 := cellE hE1 hd9; (try replace h10 := h10.ext (Nat.le_refl _) hE1); replace h7 := h7.ext (Nat.le_refl _) hE1; replace h8 := h8.ext (Nat.le_refl _) hE1; replace g1 := g1.ext (Nat.le_refl _) hE1; replace g1' := g1'.ext (Nat.le_refl _) hE1; replace h9 := h9.mono hsz (Kept.refl _ _); replace hsz := Nat.le_trans hsz hE1.size; replace hE0 := Ext.trans hE0 hE1)
    | (go_at_call 71; (with_reducible refine (zmul_b s8 b _ a8 a n8 c8 n c l8 l0 _ d h8 g1 hn8 g3 hK HI8 G2 z2 HZ2).mono ?_); rintro e w1 ⟨s10, a10, n10, c10, rfl, h10, HV10, hn10, hE1⟩; replace qo := qo.ext hE1; replace qo_0 := qo.cell (i := 0) rfl; replace qa := qa.ext hE1; replace qa_0 := qa.cell (i := 0) rfl; replace qa_1 := qa.cell (i := 1) rfl; replace qa_2 := qa.cell (i := 2) rfl; replace qb := qb.ext hE1; replace qb_0 := qb.cell (i := 0) rfl; replace qb_1 := qb.cell (i := 1) rfl; replace qb_2 := qb.cell (i := 2) rfl; replace r0 := r0.ext hE1; replace r0_0 := r0.cell (i := 0) rfl; replace r0_1 := r0.cell (i := 1) rfl; replace r0_f0 := r0.free 0; replace r0_f1 := r0.free 1; replace r0_lt := r0.lt; replace hc5 := cellE hE1 hc5; replace hc8 := cellE hE1 hc8; replace hc9 := cellE hE1 hc9; replace hd5 := cellE hE1 hd5; replace hd8 := cellE hE1 hd8; replace hd9 := cellE hE1 hd9; (try replace h9 := h9.ext (Nat.le_refl _) hE1); replace h7 := h7.ext (Nat.le_refl _) hE1; replace h8 := h8.ext (Nat.le_refl _) hE1; replace g1 := g1.ext (Nat.le_refl _) hE1; replace g1' := g1'.ext (Nat.le_refl _) hE1; replace h10 := h10.mono hsz (Kept.refl _ _); replace hsz := Nat.le_trans hsz hE1.size; replace hE0 := Ext.trans hE0 hE1)
    | ((refine (HOP.out s9 s10 _ a9 a10 n9 c9 n10 c10 _ _ z1 z2 (h9.mono (Nat.zero_le _) (Kept.refl _ _)) (h10.mono (Nat.zero_le _) (Kept.refl _ _)) hn9 hn10 HV9 HV10).mono ?_); rintro e w5 ⟨s11, a11, n11, c11, rfl, h11, HV11, hn11, hE1⟩; replace hc5 := cellE hE1 hc5; replace hc8 := cellE hE1 hc8; replace hc9 := cellE hE1 hc9; replace hd5 := cellE hE1 hd5; replace hd8 := cellE hE1 hd8; replace hd9 := cellE hE1 hd9; replace qo := qo.ext hE1; replace qo_0 := qo.cell (i := 0) rfl; replace qa := qa.ext hE1; replace qa_0 := qa.cell (i := 0) rfl; replace qa_1 := qa.cell (i := 1) rfl; replace qa_2 := qa.cell (i := 2) rfl; replace qb := qb.ext hE1; replace qb_0 := qb.cell (i := 0) rfl; replace qb_1 := qb.cell (i := 1) rfl; replace qb_2 := qb.cell (i := 2) rfl; replace r0 := r0.ext hE1; replace r0_0 := r0.cell (i := 0) rfl; replace r0_1 := r0.cell (i := 1) rfl; replace r0_f0 := r0.free 0; replace r0_f1 := r0.free 1; replace r0_lt := r0.lt; replace h11 := h11.mono hsz (Kept.refl _ _); replace hsz := Nat.le_trans hsz hE1.size; replace hE0 := Ext.trans hE0 hE1))
  all_goals
    have HF := Lib.hid (cellR_mk (w0 := w0) (z := op z1 z2) hE0 hrl hsz h11 HV11 hn11 hEW.size)
    have r02 : Blk (((w5).setCell ⟨w.heap.size, 0, none⟩ (.bool s11)).setCell ⟨w.heap.size, 1, none⟩ (.slice a11 n11 c11)) _ _ #[.bool s11, .slice a11 n11 c11] := ((r0).set 0 (.bool s11)).set 1 (.slice a11 n11 c11)
    have hr00 := r02.cell (i := 0) rfl
    have hr01 := r02.cell (i := 1) rfl
    go_wp2_with fail
    exact bodyPost_ret (v := .agg #[.bool s11, .slice a11 n11 c11]) (by simp [results, Tryz.results131, go_sem, hr00, hr01]) rfl HF.out

end Go.Proofs.YtbhenelehhiakaaGreat
/-
  Plain laws: tables of fractions; sums; what tables of integers over a denominator say.
-/
namespace Go.Proofs.YtbhenelehhiakaaGreat

def tabQ (f : Nat → Nat → Rat) (r c : Nat) : List (List Rat) := (List.range r).map fun i => (List.range c).map fun k => f i k
def entQ (qss : List (List Rat)) (i j : Nat) : Rat := (((qss[i]?).getD [])[j]?).getD 0

theorem tabQ_congr {r c : Nat} {f g : Nat → Nat → Rat} (h : ∀ i k, i < r → k < c → f i k = g i k) : tabQ f r c = tabQ g r c := by
  unfold tabQ
  refine List.map_congr_left fun i hi => List.map_congr_left fun k hk => h i k (List.mem_range.1 hi) (List.mem_range.1 hk)
theorem fracs_table (D : Int) (f : Nat → Nat → Int) (r c : Nat) : fracs D (tableZ f r c) = tabQ (fun i k => ratv (f i k) D) r c := by
  unfold fracs tableZ tabQ
  rw [List.map_map]
  refine List.map_congr_left fun i _ => ?_
  simp only [Function.comp, List.map_map]
  rfl
theorem ratv_z (d : Int) : ratv 0 d = 0 := Rat.zero_divInt d
theorem entQ_fracs (d : Int) (zss : List (List Int)) (i j : Nat) : entQ (fracs d zss) i j = ratv (entry zss i j) d := by
  unfold entQ entry fracs
  rw [List.getElem?_map]
  cases zss[i]? with
  | none => exact (ratv_z d).symm
  | some zs =>
    simp only [Option.map_some, Option.getD_some, List.getElem?_map]
    cases zs[j]? with
    | none => exact (ratv_z d).symm
    | some z => rfl
theorem ratv_add1 (x y : Int) {D : Int} (hD : D ≠ 0) : ratv (x + y) D = ratv x D + ratv y D := by
  rw [ratv_add _ _ hD hD, ← Int.add_mul, Int.mul_comm (x + y) D]
  exact (Rat.divInt_mul_left hD).symm
theorem entQ_tabQ (f : Nat → Nat → Rat) (r c i k : Nat) (hi : i < r) (hk : k < c) : entQ (tabQ f r c) i k = f i k := by
  unfold entQ tabQ
  simp [List.getElem?_map, List.getElem?_range hi, List.getElem?_range hk]
theorem length_tabQ (f : Nat → Nat → Rat) (r c : Nat) : (tabQ f r c).length = r := by simp [tabQ]
theorem row_tabQ (f : Nat → Nat → Rat) (r c : Nat) : ∀ qs ∈ tabQ f r c, qs.length = c := by
  intro qs hq
  obtain ⟨i, _, rfl⟩ := List.mem_map.1 hq
  simp
/-- rows of one length are the table of their entries -/
theorem tabQ_ent (qss : List (List Rat)) (c : Nat) (h : ∀ qs ∈ qss, qs.length = c) : tabQ (entQ qss) qss.length c = qss := by
  unfold tabQ
  refine List.ext_getElem (by simp) fun i h1 h2 => ?_
  rw [List.getElem_map, List.getElem_range]
  have hl := h _ (List.getElem_mem h2)
  refine List.ext_getElem (by simp [hl]) fun k h3 h4 => ?_
  rw [List.getElem_map, List.getElem_range]
  unfold entQ
  simp [List.getElem?_eq_getElem h2, List.getElem?_eq_getElem h4]

def joinQ (op : Rat → Rat → Rat) (A B : List (List Rat)) (r c : Nat) : List (List Rat) := tabQ (fun i k => op (entQ A i k) (entQ B i k)) r c
theorem ratv_left (x d : Int) {e : Int} (he : e ≠ 0) : ratv (x * e) (d * e) = ratv x d := by
  rw [Int.mul_comm x e, Int.mul_comm d e]; exact Rat.divInt_mul_left he
theorem addZ_eq (zss zss' : List (List Int)) (d d' : Int) (hd : d ≠ 0) (hd' : d' ≠ 0) (r c : Nat) : fracs (d * d') (tableZ (fun i k => entry zss i k * d' + entry zss' i k * d) r c) = joinQ (· + ·) (fracs d zss) (fracs d' zss') r c := by
  rw [fracs_table]
  refine tabQ_congr fun i k _ _ => ?_
  rw [entQ_fracs, entQ_fracs, ratv_add1 _ _ (Int.mul_ne_zero hd hd'), ratv_left _ _ hd', Int.mul_comm d d', ratv_left _ _ hd]
theorem ratv_sub1 (x y : Int) {D : Int} (hD : D ≠ 0) : ratv (x - y) D = ratv x D - ratv y D := by
  have h := ratv_add1 (x - y) y hD
  rw [Int.sub_add_cancel] at h
  rw [h]; grind
theorem subZ_eq (zss zss' : List (List Int)) (d d' : Int) (hd : d ≠ 0) (hd' : d' ≠ 0) (r c : Nat) : fracs (d * d') (tableZ (fun i k => entry zss i k * d' - entry zss' i k * d) r c) = joinQ (· - ·) (fracs d zss) (fracs d' zss') r c := by
  rw [fracs_table]
  refine tabQ_congr fun i k _ _ => ?_
  rw [entQ_fracs, entQ_fracs, ratv_sub1 _ _ (Int.mul_ne_zero hd hd'), ratv_left _ _ hd', Int.mul_comm d d', ratv_left _ _ hd]
def scaleQ (A : List (List Rat)) (q : Rat) (r c : Nat) : List (List Rat) := tabQ (fun i k => entQ A i k * q) r c
theorem scaleZ_eq (zss : List (List Int)) (d x e : Int) (r c : Nat) : fracs (d * e) (tableZ (fun i k => entry zss i k * x) r c) = scaleQ (fracs d zss) (ratv x e) r c := by
  rw [fracs_table]
  refine tabQ_congr fun i k _ _ => ?_
  rw [entQ_fracs, ratv_mul]
end Go.Proofs.YtbhenelehhiakaaGreat
