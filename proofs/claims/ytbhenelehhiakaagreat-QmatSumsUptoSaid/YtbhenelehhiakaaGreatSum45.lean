/-
  The references: Scale of matrices.
-/
import Derived.Test.YtbhenelehhiakaaGreatSum44
set_option linter.unusedVariables false
set_option linter.unusedSimpArgs false
namespace Go.Proofs.YtbhenelehhiakaaGreat
open Go.RowKit

set_option maxRecDepth 100000 in
set_option maxHeartbeats 16000000 in
theorem r11Scale_any (K : Nat) (hK : 8 * K + 8 ≤ 549755813888) (w : World) (b : Bool) (a a2 : Option Addr) (n c n2 c2 : Nat) (d : Int) (zss : List (List Int)) (h : MatS K w b a n c a2 n2 c2 d zss) (s4 s5 : Bool) (a4 a6 : Option Addr) (n4 c4 n6 c6 : Nat) (x : Rat) (hx : RatS K w s4 a4 n4 c4 s5 a6 n6 c6 x) (hd0 : d ≠ 0) (m : Nat) (hrow : Hid (∀ zs ∈ zss, zs.length = m)) (hn2 : n2 ≤ 1048576) (hm : m ≤ 1048576) (qss : List (List Rat)) (hq : Hid (scaleQ (fracs d zss) x n2 m = qss)) :
    Calls Tryz.prog 49 #[.agg #[.bool b, .slice a n c, .slice a2 n2 c2], .agg #[.bool s4, .slice a4 n4 c4, .bool s5, .slice a6 n6 c6]] w (RRef w qss) := by
  obtain ⟨X, hX⟩ : ∃ X, fracs d zss = X := ⟨_, rfl⟩
  have HX := Lib.hid hX
  obtain ⟨G, hG⟩ : ∃ G : Nat → Nat → Rat, G = fun i k => entQ X i k * x := ⟨_, rfl⟩
  have HQ : Hid (tabQ G n2 m = qss) := Lib.hid (by rw [← hq.out, hX, hG]; rfl)
  have hh := h
  have hxx := hx
  obtain ⟨l0, h1, h2, h3, h4⟩ := hh
  obtain ⟨l4, l6, g1, g2, g3, g4, g5, g6⟩ := hxx
  obtain ⟨zx, hzx⟩ : ∃ z, ival s4 l4 = z := ⟨_, rfl⟩
  obtain ⟨dx, hdx⟩ : ∃ z, ival s5 l6 = z := ⟨_, rfl⟩
  rw [hzx, hdx] at g4
  rw [hdx] at g3
  have hGe : ∀ i k, G i k = ratv (entry zss i k * zx) (d * dx) := fun i k => by
    rw [hG, ← hX]
    show entQ (fracs d zss) i k * x = _
    rw [entQ_fracs, ← g4, ratv_mul]
  have hdK : nl d.natAbs ≤ K := Nat.le_trans (nl_of h1 (Lib.hid h2)) h3
  have hzxK : nl zx.natAbs ≤ K := Nat.le_trans (nl_of g1 (Lib.hid hzx)) g5
  have hdxK : nl dx.natAbs ≤ K := Nat.le_trans (nl_of g2 (Lib.hid hdx)) g6
  have hzK : ∀ i k, nl (entry zss i k).natAbs ≤ K := entry_nl h4
  have hddK : nl (d * dx).natAbs ≤ K + K := by rw [Int.natAbs_mul]; have := nl_mul d.natAbs dx.natAbs; omega
  have HGK : Hid (∀ i k, nl (G i k).num.natAbs ≤ 2 * K + 1 ∧ nl (G i k).den ≤ 2 * K + 1) := Lib.hid (fun i k => by
    rw [hGe]
    have q1 := nl_mul (entry zss i k).natAbs zx.natAbs
    rw [← Int.natAbs_mul] at q1
    have := hzK i k
    exact nl_ratv (Int.mul_ne_zero hd0 g3) (by omega) (by omega))
  have HCD : Hid (nl (comDen qss.flatten) ≤ 2 * K) := Lib.hid (by
    rw [← HQ.out]
    have e : tabQ G n2 m = fracs (d * dx) (tableZ (fun i k => entry zss i k * zx) n2 m) := by rw [fracs_table]; exact tabQ_congr fun i k _ _ => hGe i k
    rw [e]
    exact Nat.le_trans (nrmD_nl _ (Int.mul_ne_zero hd0 g3) _ _ hddK) (by omega))
  have HRM : Hid (n2 * m ≤ 1099511627776) := Lib.hid (Nat.mul_le_mul hn2 hm)
  have HGf : Hid (∀ i k, G i k = entQ X i k * x) := Lib.hid (fun i k => by rw [hG])
  clear hX hG hGe h1 h2 h3 h4 hzK hddK g1 g2 g3 g4 hzx hdx
  go_enter Tryz.func49, Tryz.ntmps49
  go_wp2_with fail
  have p0 := Blk.new w 28 #[.bool b, .slice a n c, .slice a2 n2 c2]
  have p1 := Blk.new (w.alloc (Obj.cells #[.bool b, .slice a n c, .slice a2 n2 c2] 28)) 75 #[.bool s4, .slice a4 n4 c4, .bool s5, .slice a6 n6 c6]
  replace p0 := p0.ext ((Below.refl _ _).alloc (Nat.le_refl _) (Obj.cells #[.bool s4, .slice a4 n4 c4, .bool s5, .slice a6 n6 c6] 75))
  have r0 := Blk.new ((w.alloc (Obj.cells #[.bool b, .slice a n c, .slice a2 n2 c2] 28)).alloc (Obj.cells #[.bool s4, .slice a4 n4 c4, .bool s5, .slice a6 n6 c6] 75)) 28 #[.bool false, .slice none 0 0, .slice none 0 0]
  replace p0 := p0.ext ((Below.refl _ _).alloc (Nat.le_refl _) (Obj.cells #[.bool false, .slice none 0 0, .slice none 0 0] 28))
  replace p1 := p1.ext ((Below.refl _ _).alloc (Nat.le_refl _) (Obj.cells #[.bool false, .slice none 0 0, .slice none 0 0] 28))
  have hEW : Ext w (((w.alloc (Obj.cells #[.bool b, .slice a n c, .slice a2 n2 c2] 28)).alloc (Obj.cells #[.bool s4, .slice a4 n4 c4, .bool s5, .slice a6 n6 c6] 75)).alloc (Obj.cells #[.bool false, .slice none 0 0, .slice none 0 0] 28)) := ((((Below.refl _ w).alloc (by simp) _).alloc (by simp) _).alloc (by simp; omega) _)
  generalize hgW : ((w.alloc (Obj.cells #[.bool b, .slice a n c, .slice a2 n2 c2] 28)).alloc (Obj.cells #[.bool s4, .slice a4 n4 c4, .bool s5, .slice a6 n6 c6] 75)).alloc (Obj.cells #[.bool false, .slice none 0 0, .slice none 0 0] 28) = W at *
  clear hgW
  simp only [World.size_alloc] at p1 r0
  have p0_ne_p1 : ¬ w.heap.size = w.heap.size + 1 := by omega
  have p0_ne_r0 : ¬ w.heap.size = w.heap.size + 1 + 1 := by omega
  have p1_ne_p0 : ¬ w.heap.size + 1 = w.heap.size := by omega
  have p1_ne_r0 : ¬ w.heap.size + 1 = w.heap.size + 1 + 1 := by omega
  have r0_ne_p0 : ¬ w.heap.size + 1 + 1 = w.heap.size := by omega
  have r0_ne_p1 : ¬ w.heap.size + 1 + 1 = w.heap.size + 1 := by omega
  replace p0_0 := p0.cell (i := 0) rfl
  replace p0_1 := p0.cell (i := 1) rfl
  replace p0_2 := p0.cell (i := 2) rfl
  replace p1_0 := p1.cell (i := 0) rfl
  replace p1_1 := p1.cell (i := 1) rfl
  replace p1_2 := p1.cell (i := 2) rfl
  replace p1_3 := p1.cell (i := 3) rfl
  replace r0_0 := r0.cell (i := 0) rfl
  replace r0_1 := r0.cell (i := 1) rfl
  replace r0_2 := r0.cell (i := 2) rfl
  have hW : w.heap.size + 1 + 1 < W.heap.size := r0.lt
  (with_reducible refine (r11Rows_tab K (2 * K + 1) (by omega) (by omega) W b a a2 n c n2 c2 d zss (h.ext hEW) hd0 m hrow (by omega) (by omega) X HX).mono ?_)
  rintro e wz ⟨ax, cx, F, rfl, hT, hFx, hE1⟩
  have HR0 := Lib.hid r0
  have HP1 := Lib.hid p1
  have HEW := Lib.hid hEW
  have HT := Lib.hid hT
  have HE := Lib.hid hE1
  have HRX := Lib.hid (hx.ext hEW)
  have hcap := hT.read.cap
  have hmost := hT.read.most
  clear hT hE1 hEW hx h p0 p1 r0 p0_0 p0_1 p0_2 p1_0 p1_1 p1_2 p1_3 r0_0 r0_1 r0_2 hFx
  go_wp2_with fail
  go_loopg [12] n2 (fun q vi wr => ∃ i : Nat, i ≤ n2 ∧ q = n2 - i ∧ vi = .int .i64 (i : Int) ∧ Hid (Tab (2 * K + 1) W.heap.size wr ax n2 cx m F (part G (entQ X) i 0)) ∧ Hid (Ext W wr))
  case atStart => exact ⟨0, Nat.zero_le _, by omega, rfl, by rw [part_zero]; exact HT, HE⟩
  case round =>
    clear HT HE
    obtain ⟨i, hi, hq, rfl, HT, HE⟩ := hrel
    by_cases hin : i < n2
    · obtain ⟨b5, o5, g5, rfl, hb5, hc5⟩ := HT.out.row hin
      go_wp2_with fail
      go_loopg [20] m (fun q vi wr => ∃ k : Nat, k ≤ m ∧ q = m - k ∧ vi = .int .i64 (k : Int) ∧ Hid (Tab (2 * K + 1) W.heap.size wr (some ⟨b5, o5, none⟩) n2 cx m F (part G (entQ X) i k)) ∧ Hid (Ext W wr))
      case atStart => exact ⟨0, Nat.zero_le _, by omega, rfl, HT, HE⟩
      case round =>
        clear HT HE hc5
        obtain ⟨k, hk, hq2, rfl, HT, HE⟩ := hrel
        by_cases hkm : k < m
        · obtain ⟨b6, o6, g, s1, a1, n1, c1, s2, a3, n3, c3, he6, hb6, hBg, hg, hgF, hbF, hc6, ⟨u0, u1, u2, u3⟩, ⟨f0, f1, f2, f3⟩, hR1, hput⟩ := HT.out.at_ hin hkm
          cases he6
          rw [part_at] at hR1
          have nb5 : ¬ b5 = g := fun e => hbF (by rw [e]; exact hgF)
          have nb5' : ¬ g = b5 := fun e => hbF (by rw [← e]; exact hgF)
          have nb7 : ¬ g = w.heap.size + 1 := by omega
          have nb7' : ¬ w.heap.size + 1 = g := by omega
          obtain ⟨t, ht⟩ : ∃ t, G i k = t := ⟨_, rfl⟩
          have HTG : Hid (entQ X i k * x = t) := Lib.hid (by rw [← ht, HGf.out])
          have HPU : Hid (updF (part G (entQ X) i k) i k t = part G (entQ X) i (k + 1)) := Lib.hid (by rw [← ht]; exact part_upd _ _ _ _)
          have HTK : Hid (nl t.num.natAbs ≤ 2 * K + 1 ∧ nl t.den ≤ 2 * K + 1) := Lib.hid (by rw [← ht]; exact HGK.out i k)
          have HPUT := Lib.hid hput
          have hp1 : (i : Int) < (n2 : Int) := by omega
          have hp2 : (k : Int) < (m : Int) := by omega
          have p1 := HP1.out.ext HE.out
          skip
          clear ht hput hgF hbF
          go_upto_region 8 with (fail)
          have hEd : Ext wr wr.drew := (Below.refl _ _).drew
          replace f0 := frozenE hEd u0 f0
          replace f1 := frozenE hEd u1 f1
          replace f2 := frozenE hEd u2 f2
          replace f3 := frozenE hEd u3 f3
          replace hc6 := cellE hEd hc6
          replace u0 := cellE hEd u0
          replace u1 := cellE hEd u1
          replace u2 := cellE hEd u2
          replace u3 := cellE hEd u3
          replace p1 := p1.ext hEd; replace p1_0 := p1.cell (i := 0) rfl; replace p1_1 := p1.cell (i := 1) rfl; replace p1_2 := p1.cell (i := 2) rfl; replace p1_3 := p1.cell (i := 3) rfl
          replace hR1 := hR1.ext hEd
          have hR2 := HRX.out.ext (Ext.trans HE.out hEd)
          have hE0 := hEd
          refine wp_region_noPanic ?_
          refine wp_region_held_drew (S := (fun w' => w'.cell? ⟨b5, o5 + i, none⟩ = some (.slice (some ⟨g, 0, none⟩) m m) ∧ w'.cell? ⟨w.heap.size + 1, 0, none⟩ = some (.bool s4) ∧ w'.cell? ⟨w.heap.size + 1, 1, none⟩ = some (.slice a4 n4 c4) ∧ w'.cell? ⟨w.heap.size + 1, 2, none⟩ = some (.bool s5) ∧ w'.cell? ⟨w.heap.size + 1, 3, none⟩ = some (.slice a6 n6 c6))) (by kernel_rfl) ⟨hc6, p1_0, p1_1, p1_2, p1_3⟩ (fun hHeld => ?_)
          refine takeD 0 23 (v := ?_) rfl rfl (by kernel_rfl) (by kernel_rfl) (by kernel_rfl) (fun _ _ _ h => h) (Or.inl ⟨by kernel_rfl, ?hy⟩) hHeld ?_
          case hy => (intro w hSw; (try dsimp only at hSw); go_simp; try with_reducible rfl)
          try simp only [List.setIfInBounds_toArray, List.set_cons_zero, List.set_cons_succ]
          refine takeD 1 24 (v := ?_) rfl rfl (by kernel_rfl) (by kernel_rfl) (by kernel_rfl) (fun _ _ _ h => h) (Or.inl ⟨by kernel_rfl, ?hy⟩) hHeld ?_
          case hy => (intro w hSw; (try dsimp only at hSw); go_simp; try with_reducible rfl)
          try simp only [List.setIfInBounds_toArray, List.set_cons_zero, List.set_cons_succ]
          refine takeD 2 25 (v := ?_) rfl rfl (by kernel_rfl) (by kernel_rfl) (by kernel_rfl) (fun _ _ _ h => h) (Or.inl ⟨by kernel_rfl, ?hy⟩) hHeld ?_
          case hy => (intro w hSw; (try dsimp only at hSw); go_simp; try with_reducible rfl)
          try simp only [List.setIfInBounds_toArray, List.set_cons_zero, List.set_cons_succ]
          refine takeD 3 26 (v := ?_) rfl rfl (by kernel_rfl) (by kernel_rfl) (by kernel_rfl) (fun _ _ _ h => h) (Or.inl ⟨by kernel_rfl, ?hy⟩) hHeld ?_
          case hy => (intro w hSw; (try dsimp only at hSw); go_simp; try with_reducible rfl)
          try simp only [List.setIfInBounds_toArray, List.set_cons_zero, List.set_cons_succ]
          refine takeD 4 27 (v := ?_) rfl rfl (by kernel_rfl) (by kernel_rfl) (by kernel_rfl) (fun _ _ _ h => h) (Or.inl ⟨by kernel_rfl, ?hy⟩) hHeld ?_
          case hy => (intro w hSw; (try dsimp only at hSw); go_simp; try with_reducible rfl)
          try simp only [List.setIfInBounds_toArray, List.set_cons_zero, List.set_cons_succ]
          refine takeD 5 28 (v := ?_) rfl rfl (by kernel_rfl) (by kernel_rfl) (by kernel_rfl) (fun _ _ _ h => h) (Or.inl ⟨by kernel_rfl, ?hy⟩) hHeld ?_
          case hy => (intro w hSw; (try dsimp only at hSw); go_simp; try with_reducible rfl)
          try simp only [List.setIfInBounds_toArray, List.set_cons_zero, List.set_cons_succ]
          refine takeD 6 29 (v := ?_) rfl rfl (by kernel_rfl) (by kernel_rfl) (by kernel_rfl) (fun _ _ _ h => h) (Or.inl ⟨by kernel_rfl, ?hy⟩) hHeld ?_
          case hy => (intro w hSw; (try dsimp only at hSw); go_simp; try with_reducible rfl)
          try simp only [List.setIfInBounds_toArray, List.set_cons_zero, List.set_cons_succ]
          refine takeD 7 30 (v := ?_) rfl rfl (by kernel_rfl) (by kernel_rfl) (by kernel_rfl) (fun _ _ _ h => h) (Or.inl ⟨by kernel_rfl, ?hy⟩) hHeld ?_
          case hy => (intro w hSw; (try dsimp only at hSw); go_simp; try with_reducible rfl)
          try simp only [List.setIfInBounds_toArray, List.set_cons_zero, List.set_cons_succ]
          refine takeD 8 31 (v := ?_) rfl rfl (by kernel_rfl) (by kernel_rfl) (by kernel_rfl) (fun _ _ _ h => h) (Or.inl ⟨by kernel_rfl, ?hy⟩) hHeld ?_
          case hy => (intro w hSw; (try dsimp only at hSw); go_simp; try with_reducible rfl)
          try simp only [List.setIfInBounds_toArray, List.set_cons_zero, List.set_cons_succ]
          refine takeD 9 32 (v := ?_) rfl rfl (by kernel_rfl) (by kernel_rfl) (by kernel_rfl) (fun _ _ _ h => h) (Or.inl ⟨by kernel_rfl, ?hy⟩) hHeld ?_
          case hy => (intro w hSw; (try dsimp only at hSw); go_simp; try with_reducible rfl)
          try simp only [List.setIfInBounds_toArray, List.set_cons_zero, List.set_cons_succ]
          refine takeD 10 33 (v := ?_) rfl rfl (by kernel_rfl) (by kernel_rfl) (by kernel_rfl) (fun _ _ _ h => h) (Or.inl ⟨by kernel_rfl, ?hy⟩) hHeld ?_
          case hy => (intro w hSw; (try dsimp only at hSw); go_simp; try with_reducible rfl)
          try simp only [List.setIfInBounds_toArray, List.set_cons_zero, List.set_cons_succ]
          refine takeD 12 35 (v := ?_) rfl rfl (by kernel_rfl) (by kernel_rfl) (by kernel_rfl) (fun _ _ _ h => h) (Or.inl ⟨by kernel_rfl, ?hy⟩) hHeld ?_
          case hy => (intro w hSw; (try dsimp only at hSw); go_simp; try with_reducible rfl)
          try simp only [List.setIfInBounds_toArray, List.set_cons_zero, List.set_cons_succ]
          refine stepD 11 rfl (by kernel_rfl) (fun Kc hKc => ?_)
          refine Eq.mpr (if_pos (by kernel_rfl)) ?_
          go_simp
          refine hKc.out _ _ ⟨hc6, p1_0, p1_1, p1_2, p1_3⟩ (fun hHeld => ?_)
          clear hKc Kc
          try simp only [Act.put, List.setIfInBounds_toArray, List.set_cons_zero, List.set_cons_succ]
          refine stepD 13 rfl (by kernel_rfl) (fun Kc hKc => ?_)
          refine Eq.mpr (if_pos (by kernel_rfl)) ?_
          go_simp
          ((with_reducible refine (r5Mul_s (2 * K + 1) K (by omega) _ s1 s2 s4 s5 a1 a3 a4 a6 n1 c1 n3 c3 n4 c4 n6 c6 (entQ X i k) x hR1 hR2 t HTG).mono ?_); rintro e w1 ⟨a9, n9, c9, a10, n10, c10, rfl, h9, h10, hE1⟩; replace f0 := frozenE hE1 u0 f0; replace f1 := frozenE hE1 u1 f1; replace f2 := frozenE hE1 u2 f2; replace f3 := frozenE hE1 u3 f3; replace hc6 := cellE hE1 hc6; replace u0 := cellE hE1 u0; replace u1 := cellE hE1 u1; replace u2 := cellE hE1 u2; replace u3 := cellE hE1 u3; replace p1 := p1.ext hE1; replace p1_0 := p1.cell (i := 0) rfl; replace p1_1 := p1.cell (i := 1) rfl; replace p1_2 := p1.cell (i := 2) rfl; replace p1_3 := p1.cell (i := 3) rfl; have hE5 := Ext.trans hE0 hE1)
          go_wp2_with fail
          refine hKc.out _ _ ⟨hc6, p1_0, p1_1, p1_2, p1_3⟩ (fun hHeld => ?_)
          clear hKc Kc
          try simp only [Act.put, List.setIfInBounds_toArray, List.set_cons_zero, List.set_cons_succ]
          refine takeD 14 37 (v := ?_) rfl rfl (by kernel_rfl) (by kernel_rfl) (by kernel_rfl) (fun _ _ _ h => h) (Or.inl ⟨by kernel_rfl, ?hy⟩) hHeld ?_
          case hy => (intro w hSw; (try dsimp only at hSw); go_simp; try with_reducible rfl)
          try simp only [List.setIfInBounds_toArray, List.set_cons_zero, List.set_cons_succ]
          refine stepD 15 rfl (by kernel_rfl) (fun Kc hKc => ?_)
          refine Eq.mpr (if_pos (by kernel_rfl)) ?_
          go_simp
          refine hKc.out _ _ (by go_keep) (fun hHeld => ?_)
          clear hKc Kc
          try simp only [Act.put, List.setIfInBounds_toArray, List.set_cons_zero, List.set_cons_succ]
          refine wpAnyH_done (by kernel_rfl) ?_ _
          refine NoPanic.normal ?_
          all_goals
            have hT2 := HPUT.out w1 _ t (HT.out.ext hE5) (ratK_mk (h9.mono (show W.heap.size ≤ wr.drew.heap.size from HE.out.size) (Kept.refl _ _)) (h10.mono (show W.heap.size ≤ wr.drew.heap.size from HE.out.size) (Kept.refl _ _)) HTK.out.1 HTK.out.2)
            rw [HPU.out] at hT2
            have HT2 := Lib.hid hT2
            have HE2 := Lib.hid (ext_set4' (Ext.trans HE.out hE5) (k * 4) (.bool (decide (t.num < 0))) (.slice a9 n9 c9) (.bool false) (.slice a10 n10 c10) (b := g) (by omega))
            clear hT2 h9 h10 hE5 hE0 hE1 hR1 hR2 hc6 u0 u1 u2 u3 f0 f1 f2 f3 HPUT p1 p1_0 p1_1 p1_2 p1_3
            go_wp2_with fail
            go_roundg (m - (k + 1))
            case measure => omega
            case rel => exact ⟨k + 1, by omega, rfl, by go_num, HT2, HE2⟩
        · obtain rfl : k = m := by omega
          have HT3 := Lib.hid (HT.out.congr (g := part G (entQ X) (i + 1) 0) (fun i' k' _ hk' => part_row _ _ _ _ _ _ hk'))
          go_wp2_with fail
          go_roundg (n2 - (i + 1))
          case measure => omega
          case rel => exact ⟨i + 1, by omega, rfl, by go_num, HT3, HE⟩
    · obtain rfl : i = n2 := by omega
      have hT := HT.out.congr (g := G) (fun i' k' hi' _ => part_all _ _ _ _ _ hi')
      have hR := hT.read
      rw [HQ.out] at hR
      have HRR := Lib.hid (Sl.mono hR (Nat.zero_le _) (Kept.refl _ _))
      have hrowl : ∀ qs ∈ qss, qs.length = m := by rw [← HQ.out]; exact row_tabQ _ _ _
      have hfl : qss.flatten.length ≤ 1099511627776 := by
        rw [List.length_flatten, show qss.map List.length = List.replicate i m from ?_, List.sum_replicate_nat]
        · exact HRM.out
        · rw [← HQ.out]
          refine List.ext_getElem (by simp [tabQ]) fun t h1 h2 => ?_
          rw [List.getElem_map, List.getElem_replicate]
          exact row_tabQ _ _ _ _ (List.getElem_mem _)
      have HRL := Lib.hid hrowl
      have HFL := Lib.hid hfl
      clear hT hR hrowl hfl
      go_wp2_with fail
      (with_reducible refine (from_any (2*K+1) (2*K) (by omega) wr ax i cx qss HRR.out (by omega) HFL.out HCD.out _ (Lib.hid rfl) (Lib.hid (fun qs hq => by rw [HRL.out qs hq]; omega))).mono ?_)
      rintro e w5 ⟨a9, n9, c9, a10, n10, c10, rfl, h9, h10, hE5⟩
      have r0 := HR0.out.ext (Ext.trans HE.out hE5)
      skip
      replace r0_0 := r0.cell (i := 0) rfl
      replace r0_1 := r0.cell (i := 1) rfl
      replace r0_2 := r0.cell (i := 2) rfl
      replace r0_f0 := r0.free 0
      replace r0_f1 := r0.free 1
      replace r0_f2 := r0.free 2
      replace r0_lt := r0.lt
      have hW2 := HE.out.size
      have HF : Hid (RRef w qss (.returned (.agg #[.bool false, .slice a9 n9 c9, .slice a10 n10 c10])) (((w5.setCell ⟨w.heap.size + 1 + 1, 0, none⟩ (.bool false)).setCell ⟨w.heap.size + 1 + 1, 1, none⟩ (.slice a9 n9 c9)).setCell ⟨w.heap.size + 1 + 1, 2, none⟩ (.slice a10 n10 c10))) := Lib.hid (RFrom.ref (RFrom.box (w := w) (r := w.heap.size + 1 + 1) (v0 := .bool false) (v1 := .slice a9 n9 c9) (v2 := .slice a10 n10 c10) (by omega) (show w.heap.size + 1 + 1 < wr.heap.size by omega) (Ext.trans HEW.out (Ext.trans HE.out hE5)) h9 h10))
      clear h9 h10 hE5
      have r02 : Blk ((((w5).setCell ⟨w.heap.size + 1 + 1, 0, none⟩ (.bool false)).setCell ⟨w.heap.size + 1 + 1, 1, none⟩ (.slice a9 n9 c9)).setCell ⟨w.heap.size + 1 + 1, 2, none⟩ (.slice a10 n10 c10)) _ _ #[.bool false, .slice a9 n9 c9, .slice a10 n10 c10] := (((r0).set 0 (.bool false)).set 1 (.slice a9 n9 c9)).set 2 (.slice a10 n10 c10)
      have hr00 := r02.cell (i := 0) rfl
      have hr01 := r02.cell (i := 1) rfl
      have hr02 := r02.cell (i := 2) rfl
      go_wp2_with fail
      exact bodyPost_ret (v := .agg #[.bool false, .slice a9 n9 c9, .slice a10 n10 c10]) (by simp [results, Tryz.results49, go_sem, hr00, hr01, hr02]) rfl HF.out
end Go.Proofs.YtbhenelehhiakaaGreat
/-
  The references: Mul of matrices.
-/
namespace Go.Proofs.YtbhenelehhiakaaGreat
open Go.RowKit

theorem ratS_mk {K B : Nat} {w : World} {q : Rat} {a a2 : Option Addr} {n c n2 c2 : Nat} (h : NatS B w a n c (limbs q.num.natAbs)) (h2 : NatS B w a2 n2 c2 (limbs q.den)) (hn : nl q.num.natAbs ≤ K) (hn2 : nl q.den ≤ K) : RatS K w (decide (q.num < 0)) a n c false a2 n2 c2 q := by
  obtain ⟨_, _, _, _, _, _, _, _, e, l, l2, g1, g2, g3⟩ := ratK_mk (Sl.zero h) (Sl.zero h2) hn hn2
  cases e
  exact ⟨l, l2, g1, g2, g3⟩
end Go.Proofs.YtbhenelehhiakaaGreat
