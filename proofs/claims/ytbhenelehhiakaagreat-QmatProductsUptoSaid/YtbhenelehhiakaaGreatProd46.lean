/-
  The references: Mul of matrices.
-/
import Derived.Test.YtbhenelehhiakaaGreatProd45
set_option linter.unusedVariables false
set_option linter.unusedSimpArgs false
namespace Go.Proofs.YtbhenelehhiakaaGreat
open Go.RowKit

theorem ratS_mk {K B : Nat} {w : World} {q : Rat} {a a2 : Option Addr} {n c n2 c2 : Nat} (h : NatS B w a n c (limbs q.num.natAbs)) (h2 : NatS B w a2 n2 c2 (limbs q.den)) (hn : nl q.num.natAbs ≤ K) (hn2 : nl q.den ≤ K) : RatS K w (decide (q.num < 0)) a n c false a2 n2 c2 q := by
  obtain ⟨_, _, _, _, _, _, _, _, e, l, l2, g1, g2, g3⟩ := ratK_mk (Sl.zero h) (Sl.zero h2) hn hn2
  cases e
  exact ⟨l, l2, g1, g2, g3⟩
theorem nl_sumZ {K : Nat} (n : Nat) (f : Nat → Int) (h : ∀ j, nl (f j).natAbs ≤ K) : nl (sumZ n f).natAbs ≤ K + n := by
  induction n with
  | zero => show nl (0 : Int).natAbs ≤ _; rw [Int.natAbs_zero, nl_zero]; omega
  | succ n ih =>
    show nl (sumZ n f + f n).natAbs ≤ _
    have := nl_addI2 (sumZ n f) (f n)
    have := h n
    omega
set_option maxRecDepth 100000 in
set_option maxHeartbeats 16000000 in
theorem r11Mul_any (K : Nat) (hK : 8 * K + 16777216 ≤ 549755813888) (w : World) (b : Bool) (a a2 : Option Addr) (n c n2 c2 : Nat) (d : Int) (zss : List (List Int)) (h : MatS K w b a n c a2 n2 c2 d zss) (b' : Bool) (a' a2' : Option Addr) (n' c' n2' c2' : Nat) (d' : Int) (zss' : List (List Int)) (h' : MatS K w b' a' n' c' a2' n2' c2' d' zss') (hd0 : d ≠ 0) (hd1 : d' ≠ 0) (m m' : Nat) (hrow : Hid (∀ zs ∈ zss, zs.length = m)) (hrow' : Hid (∀ zs ∈ zss', zs.length = m')) (hmn : m = n2') (hcol : Hid (colsOf zss' = m')) (hn2 : n2 ≤ 1048576) (hn2' : n2' ≤ 1048576) (hm' : m' ≤ 1048576) (qss : List (List Rat)) (hq : Hid (mulQ (fracs d zss) (fracs d' zss') n2 n2' m' = qss)) :
    Calls Tryz.prog 41 #[.agg #[.bool b, .slice a n c, .slice a2 n2 c2], .agg #[.bool b', .slice a' n' c', .slice a2' n2' c2']] w (RRef w qss) := by
  obtain ⟨X, hX⟩ : ∃ X, fracs d zss = X := ⟨_, rfl⟩
  obtain ⟨Y, hY⟩ : ∃ X, fracs d' zss' = X := ⟨_, rfl⟩
  have HX := Lib.hid hX
  have HY := Lib.hid hY
  have HXL : Hid (∀ qs ∈ X, qs.length = m) := Lib.hid (fun qs hq => by rw [← hX] at hq; obtain ⟨zs, hz, rfl⟩ := List.mem_map.1 hq; rw [List.length_map]; exact hrow.out zs hz)
  have HYL : Hid (∀ qs ∈ Y, qs.length = m') := Lib.hid (fun qs hq => by rw [← hY] at hq; obtain ⟨zs, hz, rfl⟩ := List.mem_map.1 hq; rw [List.length_map]; exact hrow'.out zs hz)
  have hA := h
  have hB := h'
  obtain ⟨l0, h1, h2, h3, h4⟩ := h
  obtain ⟨l0', h1', h2', h3', h4'⟩ := h'
  have hdK : nl d.natAbs ≤ K := Nat.le_trans (nl_of h1 (Lib.hid h2)) h3
  have hdK' : nl d'.natAbs ≤ K := Nat.le_trans (nl_of h1' (Lib.hid h2')) h3'
  have hzK : ∀ i k, nl (entry zss i k).natAbs ≤ K := entry_nl h4
  have hzK' : ∀ i k, nl (entry zss' i k).natAbs ≤ K := entry_nl h4'
  have hddK : nl (d * d').natAbs ≤ K + K := by rw [Int.natAbs_mul]; have := nl_mul d.natAbs d'.natAbs; omega
  have hdd : d * d' ≠ 0 := Int.mul_ne_zero hd0 hd1
  have hpe : ∀ i j u v, entQ X i j * entQ Y u v = ratv (entry zss i j * entry zss' u v) (d * d') := fun i j u v => by rw [← hX, ← hY, entQ_fracs, entQ_fracs, ratv_mul]
  have hpn : ∀ i j u v, nl (entry zss i j * entry zss' u v).natAbs ≤ K + K := fun i j u v => by rw [Int.natAbs_mul]; have := nl_mul (entry zss i j).natAbs (entry zss' u v).natAbs; have := hzK i j; have := hzK' u v; omega
  have HPB : Hid (∀ i j u v, nl (entQ X i j * entQ Y u v).num.natAbs ≤ K + K ∧ nl (entQ X i j * entQ Y u v).den ≤ K + K) := Lib.hid (fun i j u v => by rw [hpe]; exact nl_ratv hdd (hpn i j u v) hddK)
  obtain ⟨S, hS⟩ : ∃ S : Nat → Nat → Nat → Rat, S = fun i k j => sumN j fun j => entQ X i j * entQ Y j k := ⟨_, rfl⟩
  obtain ⟨G, hG⟩ : ∃ G : Nat → Nat → Rat, G = fun i k => S i k n2' := ⟨_, rfl⟩
  have HQ : Hid (tabQ G n2 m' = qss) := Lib.hid (by rw [← hq.out, hX, hY, hG, hS]; rfl)
  have hSe : ∀ i k j, S i k j = ratv (sumZ j fun j => entry zss i j * entry zss' j k) (d * d') := fun i k j => by
    rw [hS, ratv_sum hdd]
    exact sumN_congr fun j _ => hpe i j j k
  have HSK : Hid (∀ i k j, j ≤ n2' → nl (S i k j).num.natAbs ≤ 2 * K + 1048576 ∧ nl (S i k j).den ≤ 2 * K + 1048576) := Lib.hid (fun i k j hj => by
    rw [hSe]
    have := nl_sumZ j (fun j => entry zss i j * entry zss' j k) (fun j => hpn i j j k)
    exact nl_ratv hdd (by omega) (by omega))
  have HCD : Hid (nl (comDen qss.flatten) ≤ 2 * K) := Lib.hid (by
    rw [← HQ.out]
    have e : tabQ G n2 m' = fracs (d * d') (tableZ (mulZ zss zss' n2') n2 m') := by rw [fracs_table]; exact tabQ_congr fun i k _ _ => by rw [hG]; exact hSe i k n2'
    rw [e]
    exact Nat.le_trans (nrmD_nl _ hdd _ _ hddK) (by omega))
  have HRM : Hid (n2 * m' ≤ 1099511627776) := Lib.hid (Nat.mul_le_mul hn2 hm')
  have HG : Hid (∀ i k, G i k = S i k n2') := Lib.hid (fun i k => by rw [hG])
  have HS0 : Hid (∀ i k, S i k 0 = 0) := Lib.hid (fun i k => by rw [hS]; rfl)
  have HS1 : Hid (∀ i k j, S i k j + entQ X i j * entQ Y j k = S i k (j + 1)) := Lib.hid (fun i k j => by rw [hS]; rfl)
  clear hX hY hG hS hSe h1 h2 h3 h4 h1' h2' h3' h4' hzK hzK' hddK hpe hpn hdd
  go_enter Tryz.func41, Tryz.ntmps41
  go_upto_region 1 with (fail)
  have p0 := Blk.new w 28 #[.bool b, .slice a n c, .slice a2 n2 c2]
  have p1 := Blk.new (w.alloc (Obj.cells #[.bool b, .slice a n c, .slice a2 n2 c2] 28)) 28 #[.bool b', .slice a' n' c', .slice a2' n2' c2']
  replace p0 := p0.ext ((Below.refl _ _).alloc (Nat.le_refl _) (Obj.cells #[.bool b', .slice a' n' c', .slice a2' n2' c2'] 28))
  have r0 := Blk.new ((w.alloc (Obj.cells #[.bool b, .slice a n c, .slice a2 n2 c2] 28)).alloc (Obj.cells #[.bool b', .slice a' n' c', .slice a2' n2' c2'] 28)) 28 #[.bool false, .slice none 0 0, .slice none 0 0]
  replace p0 := p0.ext ((Below.refl _ _).alloc (Nat.le_refl _) (Obj.cells #[.bool false, .slice none 0 0, .slice none 0 0] 28))
  replace p1 := p1.ext ((Below.refl _ _).alloc (Nat.le_refl _) (Obj.cells #[.bool false, .slice none 0 0, .slice none 0 0] 28))
  have hEW : Ext w (((w.alloc (Obj.cells #[.bool b, .slice a n c, .slice a2 n2 c2] 28)).alloc (Obj.cells #[.bool b', .slice a' n' c', .slice a2' n2' c2'] 28)).alloc (Obj.cells #[.bool false, .slice none 0 0, .slice none 0 0] 28)) := ((((Below.refl _ w).alloc (by simp) _).alloc (by simp) _).alloc (by simp; omega) _)
  generalize hgW : ((w.alloc (Obj.cells #[.bool b, .slice a n c, .slice a2 n2 c2] 28)).alloc (Obj.cells #[.bool b', .slice a' n' c', .slice a2' n2' c2'] 28)).alloc (Obj.cells #[.bool false, .slice none 0 0, .slice none 0 0] 28) = W at *
  clear hgW
  simp only [World.size_alloc] at p1 r0
  have p0_ne_p1 : ¬ w.heap.size = w.heap.size + 1 := by omega
  have p0_ne_r0 : ¬ w.heap.size = w.heap.size + 1 + 1 := by omega
  have p1_ne_p0 : ¬ w.heap.size + 1 = w.heap.size := by omega
  have p1_ne_r0 : ¬ w.heap.size + 1 = w.heap.size + 1 + 1 := by omega
  have r0_ne_p0 : ¬ w.heap.size + 1 + 1 = w.heap.size := by omega
  have r0_ne_p1 : ¬ w.heap.size + 1 + 1 = w.heap.size + 1 := by omega
  replace p0_0 := p0.cell (i := 0) rfl
  replace p0_1 := p0.cell (i := 1) rfl
  replace p0_2 := p0.cell (i := 2) rfl
  replace p1_0 := p1.cell (i := 0) rfl
  replace p1_1 := p1.cell (i := 1) rfl
  replace p1_2 := p1.cell (i := 2) rfl
  replace r0_0 := r0.cell (i := 0) rfl
  replace r0_1 := r0.cell (i := 1) rfl
  replace r0_2 := r0.cell (i := 2) rfl
  have hW : w.heap.size + 1 + 1 < W.heap.size := r0.lt
  have HR0 := Lib.hid r0
  have HP0 := Lib.hid p0
  have HP1 := Lib.hid p1
  have HEW := Lib.hid hEW
  go_cut [5, 6] (fun s5 s6 wx => ∃ (ax : Option Addr) (cx : Nat) (ay : Option Addr) (cy : Nat), s5 = .slice ax n2 cx ∧ s6 = .slice ay n2' cy ∧ Hid (Sl (rRatK K).slice 0 wx ax n2 cx X) ∧ Hid (Sl (rRatK K).slice 0 wx ay n2' cy Y) ∧ Hid (Ext W wx) ∧ cx ≤ 9223372036854775807 ∧ n2 ≤ cx ∧ cy ≤ 9223372036854775807 ∧ n2' ≤ cy)
  case first =>
    have hEd : Ext W W.drew := (Below.refl _ _).drew
    replace p0 := p0.ext hEd; replace p0_0 := p0.cell (i := 0) rfl; replace p0_1 := p0.cell (i := 1) rfl; replace p0_2 := p0.cell (i := 2) rfl; replace p1 := p1.ext hEd; replace p1_0 := p1.cell (i := 0) rfl; replace p1_1 := p1.cell (i := 1) rfl; replace p1_2 := p1.cell (i := 2) rfl
    have hE0 := hEd
    have hsz : W.heap.size ≤ W.drew.heap.size := Nat.le_refl _
    go_region_held3 (fun w' => w'.cell? ⟨w.heap.size, 0, none⟩ = some (.bool b) ∧ w'.cell? ⟨w.heap.size, 1, none⟩ = some (.slice a n c) ∧ w'.cell? ⟨w.heap.size, 2, none⟩ = some (.slice a2 n2 c2) ∧ w'.cell? ⟨w.heap.size + 1, 0, none⟩ = some (.bool b') ∧ w'.cell? ⟨w.heap.size + 1, 1, none⟩ = some (.slice a' n' c') ∧ w'.cell? ⟨w.heap.size + 1, 2, none⟩ = some (.slice a2' n2' c2')) (first | exact ⟨p0_0, p0_1, p0_2, p1_0, p1_1, p1_2⟩ | go_keep)
      (first
      | (go_at_call 34; (with_reducible refine (r11Rows_tab K K (Nat.le_refl _) (by omega) _ b a a2 n c n2 c2 d zss (hA.ext (Ext.trans HEW.out hE0)) hd0 m hrow (by omega) (by omega) X HX).mono ?_); rintro e w1 ⟨ax, cx, Fx, rfl, hTx, hFx, hE1⟩; have hxr := Sl.mono hTx.read (Nat.zero_le _) (Kept.refl _ _); rw [tabQ_ent2 X n2 m (by rw [← HX.out, length_fracs]; obtain ⟨_, _, _, _, h9⟩ := hA; exact h9.len) HXL.out] at hxr; (try replace hyr := hyr.ext (Nat.le_refl _) hE1); replace p0 := p0.ext hE1; replace p0_0 := p0.cell (i := 0) rfl; replace p0_1 := p0.cell (i := 1) rfl; replace p0_2 := p0.cell (i := 2) rfl; replace p1 := p1.ext hE1; replace p1_0 := p1.cell (i := 0) rfl; replace p1_1 := p1.cell (i := 1) rfl; replace p1_2 := p1.cell (i := 2) rfl; replace hsz := Nat.le_trans hsz hE1.size; replace hE0 := Ext.trans hE0 hE1)
      | (go_at_call 34; (with_reducible refine (r11Rows_tab K K (Nat.le_refl _) (by omega) _ b' a' a2' n' c' n2' c2' d' zss' (hB.ext (Ext.trans HEW.out hE0)) hd1 m' hrow' (by omega) (by omega) Y HY).mono ?_); rintro e w1 ⟨ay, cy, Fy, rfl, hTy, hFy, hE1⟩; have hyr := Sl.mono hTy.read (Nat.zero_le _) (Kept.refl _ _); rw [tabQ_ent2 Y n2' m' (by rw [← HY.out, length_fracs]; obtain ⟨_, _, _, _, h9⟩ := hB; exact h9.len) HYL.out] at hyr; (try replace hxr := hxr.ext (Nat.le_refl _) hE1); replace p0 := p0.ext hE1; replace p0_0 := p0.cell (i := 0) rfl; replace p0_1 := p0.cell (i := 1) rfl; replace p0_2 := p0.cell (i := 2) rfl; replace p1 := p1.ext hE1; replace p1_0 := p1.cell (i := 0) rfl; replace p1_1 := p1.cell (i := 1) rfl; replace p1_2 := p1.cell (i := 2) rfl; replace hsz := Nat.le_trans hsz hE1.size; replace hE0 := Ext.trans hE0 hE1))
    all_goals
      have HXR := Lib.hid hxr
      have HYR := Lib.hid hyr
      have HE0 := Lib.hid hE0
      have hcap := hxr.cap
      have hmost := hxr.most
      have hcap' := hyr.cap
      have hmost' := hyr.most
      clear hxr hyr hE0 hFx hFy hTx hTy p0 p1 p0_0 p0_1 p0_2 p1_0 p1_1 p1_2
      go_wp2_with fail
      go_meet
      exact ⟨ax, cx, ay, cy, rfl, rfl, HXR, HYR, HE0, hmost, hcap, hmost', hcap'⟩
  case rest =>
    clear p0 p1 r0 p0_0 p0_1 p0_2 p1_0 p1_1 p1_2 r0_0 r0_1 r0_2 hEW
    obtain ⟨aX, cX, aY, cY, rfl, rfl, HXR, HYR, HE, hmost, hcap, hmost', hcap'⟩ := hcut
    obtain ⟨wz, rfl⟩ : ∃ x : World, x = wc := ⟨_, rfl⟩
    have p1 := HP1.out.ext HE.out
    skip
    replace p1_0 := p1.cell (i := 0) rfl
    replace p1_1 := p1.cell (i := 1) rfl
    replace p1_2 := p1.cell (i := 2) rfl
    go_wp2_with fail
    (with_reducible refine (r11Size_any K wz b' a' a2' n' c' n2' c2' d' zss' (hB.ext (Ext.trans HEW.out HE.out)) m' hcol).mono ?_)
    rintro e w2 ⟨rfl, hE2⟩
    go_wp2_with fail
    (with_reducible refine (fill_any n2 m' (by omega) (by omega) w2).mono ?_)
    rintro e w3 hfill
    obtain ⟨ax, cx, F, rfl, hT, hE3⟩ := hfill.tab
    have HT := Lib.hid ((hT.weak (show 1 ≤ 2 * K + 1048576 by omega) (Nat.le_refl _)).weak (Nat.le_refl _) (show W.heap.size ≤ w2.heap.size from Nat.le_trans HE.out.size hE2.size))
    have HAX := Lib.hid (fun hm : 0 < m' => away_old (F := F) (HXR.out.ext (Nat.le_refl _) hE2) hE3 (fun g hg => (hT.fst hm g hg).1))
    have HAY := Lib.hid (fun hm : 0 < m' => away_old (F := F) (HYR.out.ext (Nat.le_refl _) hE2) hE3 (fun g hg => (hT.fst hm g hg).1))
    replace HE := Lib.hid (Ext.trans HE.out (Ext.trans hE2 hE3))
    have hcapo := hT.read.cap
    have hmosto := hT.read.most
    clear hT hE2 hE3 hfill p1 p1_0 p1_1 p1_2 HXR HYR
    go_wp2_with fail
    go_loopg [28] n2 (fun q vi wr => ∃ i : Nat, i ≤ n2 ∧ q = n2 - i ∧ vi = .int .i64 (i : Int) ∧ Hid (Tab (2 * K + 1048576) W.heap.size wr ax n2 cx m' F (part G (fun _ _ => 0) i 0)) ∧ Hid (0 < m' → Away F wr K 0 aX n2 cX X) ∧ Hid (0 < m' → Away F wr K 0 aY n2' cY Y) ∧ Hid (Ext W wr))
    case atStart => exact ⟨0, Nat.zero_le _, by omega, rfl, by rw [part_zero]; exact HT, HAX, HAY, HE⟩
    case round =>
      clear HT HE HAX HAY
      obtain ⟨i, hi, hq, rfl, HT, HAX, HAY, HE⟩ := hrel
      by_cases hin : i < n2
      · go_wp2_with fail
        go_loopg [11] m' (fun q vi wr => ∃ k : Nat, k ≤ m' ∧ q = m' - k ∧ vi = .int .i64 (k : Int) ∧ Hid (Tab (2 * K + 1048576) W.heap.size wr ax n2 cx m' F (part G (fun _ _ => 0) i k)) ∧ Hid (0 < m' → Away F wr K 0 aX n2 cX X) ∧ Hid (0 < m' → Away F wr K 0 aY n2' cY Y) ∧ Hid (Ext W wr))
        case atStart => exact ⟨0, Nat.zero_le _, by omega, rfl, HT, HAX, HAY, HE⟩
        case round =>
          clear HT HE HAX HAY
          obtain ⟨k, hk, hq2, rfl, HT, HAX, HAY, HE⟩ := hrel
          by_cases hkm : k < m'
          · have HT0 : Hid (Tab (2 * K + 1048576) W.heap.size wr ax n2 cx m' F (updF (part G (fun _ _ => 0) i k) i k (S i k 0))) := Lib.hid (by rw [updF_self _ _ _ _ (by rw [part_at]; exact (HS0.out i k).symm)]; exact HT.out)
            go_wp2_with fail
            go_loopg [38] n2' (fun q vi wr => ∃ j : Nat, j ≤ n2' ∧ q = n2' - j ∧ vi = .int .i64 (j : Int) ∧ Hid (Tab (2 * K + 1048576) W.heap.size wr ax n2 cx m' F (updF (part G (fun _ _ => 0) i k) i k (S i k j))) ∧ Hid (0 < m' → Away F wr K 0 aX n2 cX X) ∧ Hid (0 < m' → Away F wr K 0 aY n2' cY Y) ∧ Hid (Ext W wr))
            case atStart => exact ⟨0, Nat.zero_le _, by omega, rfl, HT0, HAX, HAY, HE⟩
            case round =>
              clear HT HE HAX HAY HT0
              obtain ⟨j, hj, hq3, rfl, HT, HAX, HAY, HE⟩ := hrel
              by_cases hjn : j < n2'
              · obtain ⟨b5, o5, g, s1, a1, n1, c1, s2, a3, n3, c3, rfl, hb5, hBg, hg, hgF, hbF, hc6, ⟨u0, u1, u2, u3⟩, ⟨f0, f1, f2, f3⟩, hR1, hput⟩ := HT.out.at_ hin hkm
                obtain ⟨b7, o7, b8, o8, c8, s4, a4, n4, c4, s5, a5, n5, c5, rfl, hb7, hne, hb8, hc7, hc8, v0, v1, v2, v3, hR2⟩ := (HAX.out (by omega)).ent (m := n2') (by rw [← hmn]; exact HXL.out) hin hjn
                obtain ⟨b9, o9, b10, o10, c10, s6, a6, n6, c6, s7, a7, n7, c7, rfl, hb9, hne2, hb10, hd7, hd8, y0, y1, y2, y3, hR3⟩ := (HAY.out (by omega)).ent HYL.out hjn hkm
                rw [updF_at] at hR1
                obtain ⟨nb7, nb8⟩ := hne g hgF
                obtain ⟨nb9, nb10⟩ := hne2 g hgF
                have nb5 : ¬ b5 = g := fun e => hbF (by rw [e]; exact hgF)
                have nb5' : ¬ g = b5 := fun e => hbF (by rw [← e]; exact hgF)
                have nb7' : ¬ g = b7 := fun e => nb7 e.symm
                have nb8' : ¬ g = b8 := fun e => nb8 e.symm
                have nb9' : ¬ g = b9 := fun e => nb9 e.symm
                have nb10' : ¬ g = b10 := fun e => nb10 e.symm
                obtain ⟨t, ht⟩ : ∃ t, S i k (j + 1) = t := ⟨_, rfl⟩
                obtain ⟨p, hp⟩ : ∃ p, entQ X i j * entQ Y j k = p := ⟨_, rfl⟩
                have HPE := Lib.hid hp
                have HTG : Hid (S i k j + p = t) := Lib.hid (by rw [← ht, ← hp]; exact HS1.out i k j)
                have HTK : Hid (nl t.num.natAbs ≤ 2 * K + 1048576 ∧ nl t.den ≤ 2 * K + 1048576) := Lib.hid (by rw [← ht]; exact HSK.out i k (j + 1) (by omega))
                have HPK : Hid (nl p.num.natAbs ≤ K + K ∧ nl p.den ≤ K + K) := Lib.hid (by rw [← hp]; exact HPB.out i j j k)
                have HTE := Lib.hid ht
                have HPUT := Lib.hid hput
                have HGF := Lib.hid hgF
                have hp1 : (i : Int) < (n2 : Int) := by omega
                have hp2 : (k : Int) < (m' : Int) := by omega
                have hp3 : (j : Int) < (n2' : Int) := by omega
                clear ht hp hput hgF hbF hne hne2
                go_upto_region 13 with (fail)
                have hEd : Ext wr wr.drew := (Below.refl _ _).drew
                replace f0 := frozenE hEd u0 f0
                replace f1 := frozenE hEd u1 f1
                replace f2 := frozenE hEd u2 f2
                replace f3 := frozenE hEd u3 f3
                replace hc6 := cellE hEd hc6
                replace hc7 := cellE hEd hc7
                replace hd7 := cellE hEd hd7
                replace v0 := cellE hEd v0
                replace v1 := cellE hEd v1
                replace v2 := cellE hEd v2
                replace v3 := cellE hEd v3
                replace y0 := cellE hEd y0
                replace y1 := cellE hEd y1
                replace y2 := cellE hEd y2
                replace y3 := cellE hEd y3
                replace u0 := cellE hEd u0
                replace u1 := cellE hEd u1
                replace u2 := cellE hEd u2
                replace u3 := cellE hEd u3
                replace hR1 := hR1.ext hEd
                replace hR2 := hR2.ext hEd
                replace hR3 := hR3.ext hEd
                have hE0 := hEd
                have hsz : wr.heap.size ≤ wr.drew.heap.size := Nat.le_refl _
                refine wp_region_noPanic ?_
                refine wp_region_held_drew (S := (fun w' => w'.cell? ⟨b5, o5 + i, none⟩ = some (.slice (some ⟨g, 0, none⟩) m' m') ∧ w'.cell? ⟨b7, o7 + i, none⟩ = some (.slice (some ⟨b8, o8, none⟩) n2' c8) ∧ w'.cell? ⟨b8, o8 + j * 4, none⟩ = some (.bool s4) ∧ w'.cell? ⟨b8, o8 + j * 4 + 1, none⟩ = some (.slice a4 n4 c4) ∧ w'.cell? ⟨b8, o8 + j * 4 + 2, none⟩ = some (.bool s5) ∧ w'.cell? ⟨b8, o8 + j * 4 + 3, none⟩ = some (.slice a5 n5 c5) ∧ w'.cell? ⟨b9, o9 + j, none⟩ = some (.slice (some ⟨b10, o10, none⟩) m' c10) ∧ w'.cell? ⟨b10, o10 + k * 4, none⟩ = some (.bool s6) ∧ w'.cell? ⟨b10, o10 + k * 4 + 1, none⟩ = some (.slice a6 n6 c6) ∧ w'.cell? ⟨b10, o10 + k * 4 + 2, none⟩ = some (.bool s7) ∧ w'.cell? ⟨b10, o10 + k * 4 + 3, none⟩ = some (.slice a7 n7 c7))) (by kernel_rfl) ⟨hc6, hc7, v0, v1, v2, v3, hd7, y0, y1, y2, y3⟩ (fun hHeld => ?_)
                refine takeD 0 41 (v := ?_) rfl rfl (by kernel_rfl) (by kernel_rfl) (by kernel_rfl) (fun _ _ _ h => h) (Or.inl ⟨by kernel_rfl, ?hy⟩) hHeld ?_
                case hy => (intro w hSw; (try dsimp only at hSw); go_simp; try with_reducible rfl)
                try simp only [List.setIfInBounds_toArray, List.set_cons_zero, List.set_cons_succ]
                refine takeD 1 42 (v := ?_) rfl rfl (by kernel_rfl) (by kernel_rfl) (by kernel_rfl) (fun _ _ _ h => h) (Or.inl ⟨by kernel_rfl, ?hy⟩) hHeld ?_
                case hy => (intro w hSw; (try dsimp only at hSw); go_simp; try with_reducible rfl)
                try simp only [List.setIfInBounds_toArray, List.set_cons_zero, List.set_cons_succ]
                refine takeD 2 43 (v := ?_) rfl rfl (by kernel_rfl) (by kernel_rfl) (by kernel_rfl) (fun _ _ _ h => h) (Or.inl ⟨by kernel_rfl, ?hy⟩) hHeld ?_
                case hy => (intro w hSw; (try dsimp only at hSw); go_simp; try with_reducible rfl)
                try simp only [List.setIfInBounds_toArray, List.set_cons_zero, List.set_cons_succ]
                refine takeD 3 44 (v := ?_) rfl rfl (by kernel_rfl) (by kernel_rfl) (by kernel_rfl) (fun _ _ _ h => h) (Or.inl ⟨by kernel_rfl, ?hy⟩) hHeld ?_
                case hy => (intro w hSw; (try dsimp only at hSw); go_simp; try with_reducible rfl)
                try simp only [List.setIfInBounds_toArray, List.set_cons_zero, List.set_cons_succ]
                refine takeD 4 45 (v := ?_) rfl rfl (by kernel_rfl) (by kernel_rfl) (by kernel_rfl) (fun _ _ _ h => h) (Or.inl ⟨by kernel_rfl, ?hy⟩) hHeld ?_
                case hy => (intro w hSw; (try dsimp only at hSw); go_simp; try with_reducible rfl)
                try simp only [List.setIfInBounds_toArray, List.set_cons_zero, List.set_cons_succ]
                refine takeD 5 46 (v := ?_) rfl rfl (by kernel_rfl) (by kernel_rfl) (by kernel_rfl) (fun _ _ _ h => h) (Or.inl ⟨by kernel_rfl, ?hy⟩) hHeld ?_
                case hy => (intro w hSw; (try dsimp only at hSw); go_simp; try with_reducible rfl)
                try simp only [List.setIfInBounds_toArray, List.set_cons_zero, List.set_cons_succ]
                refine takeD 6 47 (v := ?_) rfl rfl (by kernel_rfl) (by kernel_rfl) (by kernel_rfl) (fun _ _ _ h => h) (Or.inl ⟨by kernel_rfl, ?hy⟩) hHeld ?_
                case hy => (intro w hSw; (try dsimp only at hSw); go_simp; try with_reducible rfl)
                try simp only [List.setIfInBounds_toArray, List.set_cons_zero, List.set_cons_succ]
                refine takeD 7 48 (v := ?_) rfl rfl (by kernel_rfl) (by kernel_rfl) (by kernel_rfl) (fun _ _ _ h => h) (Or.inl ⟨by kernel_rfl, ?hy⟩) hHeld ?_
                case hy => (intro w hSw; (try dsimp only at hSw); go_simp; try with_reducible rfl)
                try simp only [List.setIfInBounds_toArray, List.set_cons_zero, List.set_cons_succ]
                refine takeD 8 49 (v := ?_) rfl rfl (by kernel_rfl) (by kernel_rfl) (by kernel_rfl) (fun _ _ _ h => h) (Or.inl ⟨by kernel_rfl, ?hy⟩) hHeld ?_
                case hy => (intro w hSw; (try dsimp only at hSw); go_simp; try with_reducible rfl)
                try simp only [List.setIfInBounds_toArray, List.set_cons_zero, List.set_cons_succ]
                refine takeD 9 50 (v := ?_) rfl rfl (by kernel_rfl) (by kernel_rfl) (by kernel_rfl) (fun _ _ _ h => h) (Or.inl ⟨by kernel_rfl, ?hy⟩) hHeld ?_
                case hy => (intro w hSw; (try dsimp only at hSw); go_simp; try with_reducible rfl)
                try simp only [List.setIfInBounds_toArray, List.set_cons_zero, List.set_cons_succ]
                refine takeD 10 51 (v := ?_) rfl rfl (by kernel_rfl) (by kernel_rfl) (by kernel_rfl) (fun _ _ _ h => h) (Or.inl ⟨by kernel_rfl, ?hy⟩) hHeld ?_
                case hy => (intro w hSw; (try dsimp only at hSw); go_simp; try with_reducible rfl)
                try simp only [List.setIfInBounds_toArray, List.set_cons_zero, List.set_cons_succ]
                refine takeD 12 53 (v := ?_) rfl rfl (by kernel_rfl) (by kernel_rfl) (by kernel_rfl) (fun _ _ _ h => h) (Or.inl ⟨by kernel_rfl, ?hy⟩) hHeld ?_
                case hy => (intro w hSw; (try dsimp only at hSw); go_simp; try with_reducible rfl)
                try simp only [List.setIfInBounds_toArray, List.set_cons_zero, List.set_cons_succ]
                refine takeD 13 54 (v := ?_) rfl rfl (by kernel_rfl) (by kernel_rfl) (by kernel_rfl) (fun _ _ _ h => h) (Or.inl ⟨by kernel_rfl, ?hy⟩) hHeld ?_
                case hy => (intro w hSw; (try dsimp only at hSw); go_simp; try with_reducible rfl)
                try simp only [List.setIfInBounds_toArray, List.set_cons_zero, List.set_cons_succ]
                refine takeD 14 55 (v := ?_) rfl rfl (by kernel_rfl) (by kernel_rfl) (by kernel_rfl) (fun _ _ _ h => h) (Or.inl ⟨by kernel_rfl, ?hy⟩) hHeld ?_
                case hy => (intro w hSw; (try dsimp only at hSw); go_simp; try with_reducible rfl)
                try simp only [List.setIfInBounds_toArray, List.set_cons_zero, List.set_cons_succ]
                refine takeD 15 56 (v := ?_) rfl rfl (by kernel_rfl) (by kernel_rfl) (by kernel_rfl) (fun _ _ _ h => h) (Or.inl ⟨by kernel_rfl, ?hy⟩) hHeld ?_
                case hy => (intro w hSw; (try dsimp only at hSw); go_simp; try with_reducible rfl)
                try simp only [List.setIfInBounds_toArray, List.set_cons_zero, List.set_cons_succ]
                refine takeD 16 57 (v := ?_) rfl rfl (by kernel_rfl) (by kernel_rfl) (by kernel_rfl) (fun _ _ _ h => h) (Or.inl ⟨by kernel_rfl, ?hy⟩) hHeld ?_
                case hy => (intro w hSw; (try dsimp only at hSw); go_simp; try with_reducible rfl)
                try simp only [List.setIfInBounds_toArray, List.set_cons_zero, List.set_cons_succ]
                refine takeD 17 58 (v := ?_) rfl rfl (by kernel_rfl) (by kernel_rfl) (by kernel_rfl) (fun _ _ _ h => h) (Or.inl ⟨by kernel_rfl, ?hy⟩) hHeld ?_
                case hy => (intro w hSw; (try dsimp only at hSw); go_simp; try with_reducible rfl)
                try simp only [List.setIfInBounds_toArray, List.set_cons_zero, List.set_cons_succ]
                refine takeD 18 59 (v := ?_) rfl rfl (by kernel_rfl) (by kernel_rfl) (by kernel_rfl) (fun _ _ _ h => h) (Or.inl ⟨by kernel_rfl, ?hy⟩) hHeld ?_
                case hy => (intro w hSw; (try dsimp only at hSw); go_simp; try with_reducible rfl)
                try simp only [List.setIfInBounds_toArray, List.set_cons_zero, List.set_cons_succ]
                refine takeD 19 60 (v := ?_) rfl rfl (by kernel_rfl) (by kernel_rfl) (by kernel_rfl) (fun _ _ _ h => h) (Or.inl ⟨by kernel_rfl, ?hy⟩) hHeld ?_
                case hy => (intro w hSw; (try dsimp only at hSw); go_simp; try with_reducible rfl)
                try simp only [List.setIfInBounds_toArray, List.set_cons_zero, List.set_cons_succ]
                refine takeD 20 61 (v := ?_) rfl rfl (by kernel_rfl) (by kernel_rfl) (by kernel_rfl) (fun _ _ _ h => h) (Or.inl ⟨by kernel_rfl, ?hy⟩) hHeld ?_
                case hy => (intro w hSw; (try dsimp only at hSw); go_simp; try with_reducible rfl)
                try simp only [List.setIfInBounds_toArray, List.set_cons_zero, List.set_cons_succ]
                refine takeD 21 62 (v := ?_) rfl rfl (by kernel_rfl) (by kernel_rfl) (by kernel_rfl) (fun _ _ _ h => h) (Or.inl ⟨by kernel_rfl, ?hy⟩) hHeld ?_
                case hy => (intro w hSw; (try dsimp only at hSw); go_simp; try with_reducible rfl)
                try simp only [List.setIfInBounds_toArray, List.set_cons_zero, List.set_cons_succ]
                refine takeD 22 63 (v := ?_) rfl rfl (by kernel_rfl) (by kernel_rfl) (by kernel_rfl) (fun _ _ _ h => h) (Or.inl ⟨by kernel_rfl, ?hy⟩) hHeld ?_
                case hy => (intro w hSw; (try dsimp only at hSw); go_simp; try with_reducible rfl)
                try simp only [List.setIfInBounds_toArray, List.set_cons_zero, List.set_cons_succ]
                refine takeD 23 64 (v := ?_) rfl rfl (by kernel_rfl) (by kernel_rfl) (by kernel_rfl) (fun _ _ _ h => h) (Or.inl ⟨by kernel_rfl, ?hy⟩) hHeld ?_
                case hy => (intro w hSw; (try dsimp only at hSw); go_simp; try with_reducible rfl)
                try simp only [List.setIfInBounds_toArray, List.set_cons_zero, List.set_cons_succ]
                refine takeD 24 65 (v := ?_) rfl rfl (by kernel_rfl) (by kernel_rfl) (by kernel_rfl) (fun _ _ _ h => h) (Or.inl ⟨by kernel_rfl, ?hy⟩) hHeld ?_
                case hy => (intro w hSw; (try dsimp only at hSw); go_simp; try with_reducible rfl)
                try simp only [List.setIfInBounds_toArray, List.set_cons_zero, List.set_cons_succ]
                refine takeD 25 66 (v := ?_) rfl rfl (by kernel_rfl) (by kernel_rfl) (by kernel_rfl) (fun _ _ _ h => h) (Or.inl ⟨by kernel_rfl, ?hy⟩) hHeld ?_
                case hy => (intro w hSw; (try dsimp only at hSw); go_simp; try with_reducible rfl)
                try simp only [List.setIfInBounds_toArray, List.set_cons_zero, List.set_cons_succ]
                refine wpAnyH_ready (rs := [11, 26]) (by kernel_rfl) (by simp) ?_
                refine AllReadyH.cons rfl (fun Kc hKc => ?_) (AllReadyH.cons rfl (fun Kc hKc => ?_) AllReadyH.nil)
                rotate_left 1
                focus
                  refine Eq.mpr (if_pos (by kernel_rfl)) ?_
                  go_simp
                  ((with_reducible refine (r5Mul_s K K (by omega) _ s4 s5 s6 s7 a4 a5 a6 a7 n4 c4 n5 c5 n6 c6 n7 c7 (entQ X i j) (entQ Y j k) hR2 hR3 p HPE).mono ?_); rintro e w1 ⟨a11, n11, c11, a12, n12, c12, rfl, h11, h12, hE1⟩; replace f0 := frozenE hE1 u0 f0; replace f1 := frozenE hE1 u1 f1; replace f2 := frozenE hE1 u2 f2; replace f3 := frozenE hE1 u3 f3; replace hc6 := cellE hE1 hc6; replace hc7 := cellE hE1 hc7; replace hd7 := cellE hE1 hd7; replace v0 := cellE hE1 v0; replace v1 := cellE hE1 v1; replace v2 := cellE hE1 v2; replace v3 := cellE hE1 v3; replace y0 := cellE hE1 y0; replace y1 := cellE hE1 y1; replace y2 := cellE hE1 y2; replace y3 := cellE hE1 y3; replace u0 := cellE hE1 u0; replace u1 := cellE hE1 u1; replace u2 := cellE hE1 u2; replace u3 := cellE hE1 u3; replace hR1 := hR1.ext hE1; have hR4 := ratS_mk h11 h12 HPK.out.1 HPK.out.2; replace hsz := Nat.le_trans hsz hE1.size; replace hE0 := Ext.trans hE0 hE1)
                  go_wp2_with fail
                  refine hKc.out _ _ ⟨hc6, hc7, v0, v1, v2, v3, hd7, y0, y1, y2, y3⟩ (fun hHeld => ?_)
                  clear hKc Kc
                  try simp only [Act.put, List.setIfInBounds_toArray, List.set_cons_zero, List.set_cons_succ]
                  refine stepD 11 rfl (by kernel_rfl) (fun Kc hKc => ?_)
                  refine Eq.mpr (if_pos (by kernel_rfl)) ?_
                  go_simp
                  refine hKc.out _ _ ⟨hc6, hc7, v0, v1, v2, v3, hd7, y0, y1, y2, y3⟩ (fun hHeld => ?_)
                  clear hKc Kc
                  try simp only [Act.put, List.setIfInBounds_toArray, List.set_cons_zero, List.set_cons_succ]
                rotate_right 1
                focus
                  refine Eq.mpr (if_pos (by kernel_rfl)) ?_
                  go_simp
                  refine hKc.out _ _ ⟨hc6, hc7, v0, v1, v2, v3, hd7, y0, y1, y2, y3⟩ (fun hHeld => ?_)
                  clear hKc Kc
                  try simp only [Act.put, List.setIfInBounds_toArray, List.set_cons_zero, List.set_cons_succ]
                  refine stepD 26 rfl (by kernel_rfl) (fun Kc hKc => ?_)
                  refine Eq.mpr (if_pos (by kernel_rfl)) ?_
                  go_simp
                  ((with_reducible refine (r5Mul_s K K (by omega) _ s4 s5 s6 s7 a4 a5 a6 a7 n4 c4 n5 c5 n6 c6 n7 c7 (entQ X i j) (entQ Y j k) hR2 hR3 p HPE).mono ?_); rintro e w1 ⟨a11, n11, c11, a12, n12, c12, rfl, h11, h12, hE1⟩; replace f0 := frozenE hE1 u0 f0; replace f1 := frozenE hE1 u1 f1; replace f2 := frozenE hE1 u2 f2; replace f3 := frozenE hE1 u3 f3; replace hc6 := cellE hE1 hc6; replace hc7 := cellE hE1 hc7; replace hd7 := cellE hE1 hd7; replace v0 := cellE hE1 v0; replace v1 := cellE hE1 v1; replace v2 := cellE hE1 v2; replace v3 := cellE hE1 v3; replace y0 := cellE hE1 y0; replace y1 := cellE hE1 y1; replace y2 := cellE hE1 y2; replace y3 := cellE hE1 y3; replace u0 := cellE hE1 u0; replace u1 := cellE hE1 u1; replace u2 := cellE hE1 u2; replace u3 := cellE hE1 u3; replace hR1 := hR1.ext hE1; have hR4 := ratS_mk h11 h12 HPK.out.1 HPK.out.2; replace hsz := Nat.le_trans hsz hE1.size; replace hE0 := Ext.trans hE0 hE1)
                  go_wp2_with fail
                  refine hKc.out _ _ ⟨hc6, hc7, v0, v1, v2, v3, hd7, y0, y1, y2, y3⟩ (fun hHeld => ?_)
                  clear hKc Kc
                  try simp only [Act.put, List.setIfInBounds_toArray, List.set_cons_zero, List.set_cons_succ]
                all_goals
                  refine stepD 27 rfl (by kernel_rfl) (fun Kc hKc => ?_)
                  refine Eq.mpr (if_pos (by kernel_rfl)) ?_
                  go_simp
                  ((with_reducible refine (r5Add_s (2 * K + 1048576) (K + K) (by omega) _ s1 s2 _ _ a1 a3 a11 a12 n1 c1 n3 c3 n11 c11 n12 c12 (S i k j) p hR1 hR4 t HTG).mono ?_); rintro e w1 ⟨a13, n13, c13, a14, n14, c14, rfl, h13, h14, hE1⟩; replace f0 := frozenE hE1 u0 f0; replace f1 := frozenE hE1 u1 f1; replace f2 := frozenE hE1 u2 f2; replace f3 := frozenE hE1 u3 f3; replace hc6 := cellE hE1 hc6; replace hc7 := cellE hE1 hc7; replace hd7 := cellE hE1 hd7; replace v0 := cellE hE1 v0; replace v1 := cellE hE1 v1; replace v2 := cellE hE1 v2; replace v3 := cellE hE1 v3; replace y0 := cellE hE1 y0; replace y1 := cellE hE1 y1; replace y2 := cellE hE1 y2; replace y3 := cellE hE1 y3; replace u0 := cellE hE1 u0; replace u1 := cellE hE1 u1; replace u2 := cellE hE1 u2; replace u3 := cellE hE1 u3; replace h13 := h13.mono hsz (Kept.refl _ _); replace h14 := h14.mono hsz (Kept.refl _ _); have hE5 := Ext.trans hE0 hE1)
                  go_wp2_with fail
                  refine hKc.out _ _ ⟨hc6, hc7, v0, v1, v2, v3, hd7, y0, y1, y2, y3⟩ (fun hHeld => ?_)
                  clear hKc Kc
                  try simp only [Act.put, List.setIfInBounds_toArray, List.set_cons_zero, List.set_cons_succ]
                  refine takeD 28 69 (v := ?_) rfl rfl (by kernel_rfl) (by kernel_rfl) (by kernel_rfl) (fun _ _ _ h => h) (Or.inl ⟨by kernel_rfl, ?hy⟩) hHeld ?_
                  case hy => (intro w hSw; (try dsimp only at hSw); go_simp; try with_reducible rfl)
                  try simp only [List.setIfInBounds_toArray, List.set_cons_zero, List.set_cons_succ]
                  refine stepD 29 rfl (by kernel_rfl) (fun Kc hKc => ?_)
                  refine Eq.mpr (if_pos (by kernel_rfl)) ?_
                  go_simp
                  refine hKc.out _ _ (by go_keep) (fun hHeld => ?_)
                  clear hKc Kc
                  try simp only [Act.put, List.setIfInBounds_toArray, List.set_cons_zero, List.set_cons_succ]
                  refine wpAnyH_done (by kernel_rfl) ?_ _
                  refine NoPanic.normal ?_
                all_goals
                  have hT2 := HPUT.out w1 _ t (HT.out.ext hE5) (ratK_mk (h13.mono (show W.heap.size ≤ wr.heap.size from HE.out.size) (Kept.refl _ _)) (h14.mono (show W.heap.size ≤ wr.heap.size from HE.out.size) (Kept.refl _ _)) HTK.out.1 HTK.out.2)
                  rw [updF_upd, ← HTE.out] at hT2
                  have HT2 := Lib.hid hT2
                  have HAX2 := Lib.hid (fun hm => ((HAX.out hm).ext hE5).set HGF.out [.bool (decide (t.num < 0)), .slice a13 n13 c13, .bool false, .slice a14 n14 c14] (k * 4))
                  have HAY2 := Lib.hid (fun hm => ((HAY.out hm).ext hE5).set HGF.out [.bool (decide (t.num < 0)), .slice a13 n13 c13, .bool false, .slice a14 n14 c14] (k * 4))
                  have HE2 := Lib.hid (ext_set4' (Ext.trans HE.out hE5) (k * 4) (.bool (decide (t.num < 0))) (.slice a13 n13 c13) (.bool false) (.slice a14 n14 c14) (b := g) (by omega))
                  rw [HTE.out] at HT2
                  clear hT2 h11 h12 h13 h14 hE5 hE0 hE1 hR1 hR2 hR3 hR4 hc6 hc7 hd7 v0 v1 v2 v3 y0 y1 y2 y3 u0 u1 u2 u3 f0 f1 f2 f3 HPUT
                  go_wp2_with fail
                  go_roundg (n2' - (j + 1))
                  case measure => omega
                  case rel => exact ⟨j + 1, by omega, rfl, by go_num, by rw [HTE.out]; exact HT2, HAX2, HAY2, HE2⟩
              · obtain rfl : j = n2' := by omega
                have HT3 : Hid (Tab (2 * K + 1048576) W.heap.size wr ax n2 cx m' F (part G (fun _ _ => 0) i (k + 1))) := Lib.hid (by have := HT.out; rw [← HG.out, part_upd] at this; exact this)
                go_wp2_with fail
                go_roundg (m' - (k + 1))
                case measure => omega
                case rel => exact ⟨k + 1, by omega, rfl, by go_num, HT3, HAX, HAY, HE⟩
          · obtain rfl : k = m' := by omega
            have HT3 := Lib.hid (HT.out.congr (g := part G (fun _ _ => 0) (i + 1) 0) (fun i' k' _ hk' => part_row _ _ _ _ _ _ hk'))
            go_wp2_with fail
            go_roundg (n2 - (i + 1))
            case measure => omega
            case rel => exact ⟨i + 1, by omega, rfl, by go_num, HT3, HAX, HAY, HE⟩
      · obtain rfl : i = n2 := by omega
        have hT := HT.out.congr (g := G) (fun i' k' hi' _ => part_all _ _ _ _ _ hi')
        have hR := hT.read
        rw [HQ.out] at hR
        have HRR := Lib.hid (Sl.mono hR (Nat.zero_le _) (Kept.refl _ _))
        have hrowl : ∀ qs ∈ qss, qs.length = m' := by rw [← HQ.out]; exact row_tabQ _ _ _
        have hfl : qss.flatten.length ≤ 1099511627776 := by
          rw [List.length_flatten, show qss.map List.length = List.replicate i m' from ?_, List.sum_replicate_nat]
          · exact HRM.out
          · rw [← HQ.out]
            refine List.ext_getElem (by simp [tabQ]) fun t h1 h2 => ?_
            rw [List.getElem_map, List.getElem_replicate]
            exact row_tabQ _ _ _ _ (List.getElem_mem _)
        have HRL := Lib.hid hrowl
        have HFL := Lib.hid hfl
        clear hT hR hrowl hfl
        go_wp2_with fail
        (with_reducible refine (from_any (2*K+1048576) (2*K) (by omega) wr ax i cx qss HRR.out (by omega) HFL.out HCD.out _ (Lib.hid rfl) (Lib.hid (fun qs hq => by rw [HRL.out qs hq]; omega))).mono ?_)
        rintro e w5 ⟨a9, n9, c9, a10, n10, c10, rfl, h9, h10, hE5⟩
        have r0 := HR0.out.ext (Ext.trans HE.out hE5)
        skip
        replace r0_0 := r0.cell (i := 0) rfl
        replace r0_1 := r0.cell (i := 1) rfl
        replace r0_2 := r0.cell (i := 2) rfl
        replace r0_f0 := r0.free 0
        replace r0_f1 := r0.free 1
        replace r0_f2 := r0.free 2
        replace r0_lt := r0.lt
        have hW2 := HE.out.size
        have HF : Hid (RRef w qss (.returned (.agg #[.bool false, .slice a9 n9 c9, .slice a10 n10 c10])) (((w5.setCell ⟨w.heap.size + 1 + 1, 0, none⟩ (.bool false)).setCell ⟨w.heap.size + 1 + 1, 1, none⟩ (.slice a9 n9 c9)).setCell ⟨w.heap.size + 1 + 1, 2, none⟩ (.slice a10 n10 c10))) := Lib.hid (RFrom.ref (RFrom.box (w := w) (r := w.heap.size + 1 + 1) (v0 := .bool false) (v1 := .slice a9 n9 c9) (v2 := .slice a10 n10 c10) (by omega) (show w.heap.size + 1 + 1 < wr.heap.size by omega) (Ext.trans HEW.out (Ext.trans HE.out hE5)) h9 h10))
        clear h9 h10 hE5
        have r02 : Blk ((((w5).setCell ⟨w.heap.size + 1 + 1, 0, none⟩ (.bool false)).setCell ⟨w.heap.size + 1 + 1, 1, none⟩ (.slice a9 n9 c9)).setCell ⟨w.heap.size + 1 + 1, 2, none⟩ (.slice a10 n10 c10)) _ _ #[.bool false, .slice a9 n9 c9, .slice a10 n10 c10] := (((r0).set 0 (.bool false)).set 1 (.slice a9 n9 c9)).set 2 (.slice a10 n10 c10)
        have hr00 := r02.cell (i := 0) rfl
        have hr01 := r02.cell (i := 1) rfl
        have hr02 := r02.cell (i := 2) rfl
        go_wp2_with fail
        exact bodyPost_ret (v := .agg #[.bool false, .slice a9 n9 c9, .slice a10 n10 c10]) (by simp [results, Tryz.results41, go_sem, hr00, hr01, hr02]) rfl HF.out
end Go.Proofs.YtbhenelehhiakaaGreat
