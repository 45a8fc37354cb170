/-
  The references: Add of matrices.
-/
import Derived.Test.YtbhenelehhiakaaGreatSum43
import Derived.Test.YtbhenelehhiakaaGreatSum39
set_option linter.unusedVariables false
set_option linter.unusedSimpArgs false
namespace Go.Proofs.YtbhenelehhiakaaGreat
open Go.RowKit

/-- an answer of the reference, in memory of its own -/
def RRefB (w : World) (qss : List (List Rat)) (e : Ending) (w' : World) : Prop := ∃ a n c a2 n2 c2, e = .returned (.agg #[.bool false, .slice a n c, .slice a2 n2 c2]) ∧ NatS w.heap.size w' a n c (limbs (nrmD qss)) ∧ Sl rInts w.heap.size w' a2 n2 c2 (rawM (nrmZ qss)) ∧ Ext w w'
theorem RFrom.refB {w w' : World} {qss : List (List Rat)} {e : Ending} (h : RFrom w (nrmD qss) (qss.map fun qs => qs.map (comNum (nrmD qss))) e w') : RRefB w qss e w' := by
  obtain ⟨a, n, c, a2, n2, c2, he, h1, h2, hE⟩ := h
  exact ⟨a, n, c, a2, n2, c2, he, h1, rawRowsB h2, hE⟩
theorem RRefB.ref {w w' : World} {qss : List (List Rat)} {e : Ending} (h : RRefB w qss e w') : RRef w qss e w' := by
  obtain ⟨a, n, c, a2, n2, c2, he, h1, h2, hE⟩ := h
  exact ⟨a, n, c, a2, n2, c2, he, h1.mono (Nat.zero_le _) (Kept.refl _ _), h2.mono (Nat.zero_le _) (Kept.refl _ _), hE⟩
def RTab (K r m : Nat) (f : Nat → Nat → Rat) (w : World) (e : Ending) (w' : World) : Prop := ∃ a c F, e = .returned (.slice a r c) ∧ Tab K w.heap.size w' a r c m F f ∧ (0 < m → ∀ g ∈ F, w.heap.size ≤ g ∧ g < w'.heap.size) ∧ Ext w w'
theorem Tab.fst {K B : Nat} {w : World} {a : Option Addr} {r c m : Nat} {F : List Nat} {f : Nat → Nat → Rat} (h : Tab K B w a r c m F f) (hm : 0 < m) : ∀ g ∈ F, B ≤ g ∧ g < w.heap.size := fun g hg => by
  obtain ⟨L, h1, h2, _⟩ := h
  rw [← h2] at hg
  obtain ⟨x, hx, rfl⟩ := List.mem_map.1 hg
  obtain ⟨i, hi, rfl⟩ := List.getElem_of_mem hx
  obtain ⟨_, _, _, _, g1, g2, _⟩ := h1.cells hi hm
  exact ⟨g1, g2⟩
theorem r11Rows_tab (K K3 : Nat) (hK3 : K ≤ K3) (hK : K ≤ 549755813888) (w : World) (b : Bool) (a a2 : Option Addr) (n c n2 c2 : Nat) (d : Int) (zss : List (List Int)) (h : MatS K w b a n c a2 n2 c2 d zss) (hd0 : d ≠ 0) (m : Nat) (hrow : Hid (∀ zs ∈ zss, zs.length = m)) (hn2 : n2 ≤ 1099511627776) (hm : m ≤ 1099511627776) (X : List (List Rat)) (hX : Hid (fracs d zss = X)) :
    Calls Tryz.prog 34 #[.agg #[.bool b, .slice a n c, .slice a2 n2 c2]] w (RTab K3 n2 m (entQ X) w) :=
  (r11Rows_any K hK w b a a2 n c n2 c2 d zss h hd0 m hrow hn2 hm).mono fun e w' hr => by
    rw [hX.out] at hr
    obtain ⟨a, c2, F, rfl, h1, h2, hE⟩ := hr.tab (fun qs hq => by rw [← hX.out] at hq; obtain ⟨zs, hz, rfl⟩ := List.mem_map.1 hq; rw [List.length_map]; exact hrow.out zs hz)
    exact ⟨a, c2, F, rfl, h1.weak hK3 (Nat.le_refl _), fun hm => h1.fst hm, hE⟩
theorem ratK_mk {K B : Nat} {w : World} {q : Rat} {a a2 : Option Addr} {n c n2 c2 : Nat} (h : NatS B w a n c (limbs q.num.natAbs)) (h2 : NatS B w a2 n2 c2 (limbs q.den)) (hn : nl q.num.natAbs ≤ K) (hn2 : nl q.den ≤ K) : (rRatK K).ok B w [.bool (decide (q.num < 0)), .slice a n c, .bool false, .slice a2 n2 c2] q :=
  ⟨_, a, n, c, _, a2, n2, c2, rfl, limbs q.num.natAbs, limbs q.den, h, h2, by rw [ival_limbs]; have := q.den_pos; simp; omega, by rw [ival_norm, ival_limbs]; simp; exact ratv_self q, by have := len_norm h; omega, by have := len_norm h2; omega⟩
theorem nl_ratv {K : Nat} {z d : Int} (hd : d ≠ 0) (hz : nl z.natAbs ≤ K) (h : nl d.natAbs ≤ K) : nl (ratv z d).num.natAbs ≤ K ∧ nl (ratv z d).den ≤ K :=
  ⟨Nat.le_trans (nl_mono (ratv_le z d hd).1) hz, Nat.le_trans (nl_mono (ratv_le z d hd).2) h⟩
theorem entry_nl {K B : Nat} {w : World} {a : Option Addr} {n c : Nat} {zss : List (List Int)} (h : Sl (rIntK K).slice B w a n c zss) (i k : Nat) : nl (entry zss i k).natAbs ≤ K := by
  unfold entry
  cases hi : zss[i]? with
  | none => simp [nl_zero]
  | some zs =>
    simp only [Option.getD_some]
    cases hk : zs[k]? with
    | none => simp [nl_zero]
    | some z =>
      simp only [Option.getD_some]
      obtain ⟨hil, hie⟩ := List.getElem?_eq_some_iff.1 hi
      obtain ⟨hkl, hke⟩ := List.getElem?_eq_some_iff.1 hk
      obtain ⟨b, o, cs, ha, ⟨a1, n1, c1, rfl, h1⟩, hc⟩ := h.at_ i hil
      rw [hie] at h1
      obtain ⟨b2, o2, cs2, ha2, ⟨s, a3, n3, c3, l, rfl, h3, hv, hn⟩, hc2⟩ := h1.at_ k hkl
      rw [hke] at hv
      exact Nat.le_trans (nl_of h3 (Lib.hid hv)) hn
theorem tabQ_ent2 (Q : List (List Rat)) (r m : Nat) (hr : Q.length = r) (hl : ∀ qs ∈ Q, qs.length = m) : tabQ (entQ Q) r m = Q := by rw [← hr]; exact tabQ_ent Q m hl

set_option maxRecDepth 100000 in
set_option maxHeartbeats 16000000 in
theorem r11Add_b (K : Nat) (hK : 8 * K + 8 ≤ 549755813888) (w : World) (b : Bool) (a a2 : Option Addr) (n c n2 c2 : Nat) (d : Int) (zss : List (List Int)) (h : MatS K w b a n c a2 n2 c2 d zss) (b' : Bool) (a' a2' : Option Addr) (n' c' c2' : Nat) (d' : Int) (zss' : List (List Int)) (h' : MatS K w b' a' n' c' a2' n2 c2' d' zss') (hd0 : d ≠ 0) (hd1 : d' ≠ 0) (m : Nat) (hrow : Hid (∀ zs ∈ zss, zs.length = m)) (hrow' : Hid (∀ zs ∈ zss', zs.length = m)) (hn2 : n2 ≤ 1048576) (hm : m ≤ 1048576) (qss : List (List Rat)) (hq : Hid (joinQ (· + ·) (fracs d zss) (fracs d' zss') n2 m = qss)) :
    Calls Tryz.prog 47 #[.agg #[.bool b, .slice a n c, .slice a2 n2 c2], .agg #[.bool b', .slice a' n' c', .slice a2' n2 c2']] w (RRefB w qss) := by
  obtain ⟨X, hX⟩ : ∃ X, fracs d zss = X := ⟨_, rfl⟩
  obtain ⟨Y, hY⟩ : ∃ X, fracs d' zss' = X := ⟨_, rfl⟩
  have HX := Lib.hid hX
  have HY := Lib.hid hY
  obtain ⟨G, hG⟩ : ∃ G : Nat → Nat → Rat, G = fun i k => entQ X i k + entQ Y i k := ⟨_, rfl⟩
  have HQ : Hid (tabQ G n2 m = qss) := Lib.hid (by rw [← hq.out, hX, hY, hG]; rfl)
  have HYL : Hid (∀ qs ∈ Y, qs.length = m) := Lib.hid (fun qs hq => by rw [← hY] at hq; obtain ⟨zs, hz, rfl⟩ := List.mem_map.1 hq; rw [List.length_map]; exact hrow'.out zs hz)
  have hGe : ∀ i k, G i k = ratv (entry zss i k * d' + entry zss' i k * d) (d * d') := fun i k => by
    rw [hG, ← hX, ← hY]
    show entQ (fracs d zss) i k + entQ (fracs d' zss') i k = _
    rw [entQ_fracs, entQ_fracs, ratv_add1 _ _ (Int.mul_ne_zero hd0 hd1), ratv_left _ _ hd1, Int.mul_comm d d', ratv_left _ _ hd0]
  obtain ⟨l0, h1, h2, h3, h4⟩ := h
  obtain ⟨l0', h1', h2', h3', h4'⟩ := h'
  have hdK : nl d.natAbs ≤ K := Nat.le_trans (nl_of h1 (Lib.hid h2)) h3
  have hdK' : nl d'.natAbs ≤ K := Nat.le_trans (nl_of h1' (Lib.hid h2')) h3'
  have hzK : ∀ i k, nl (entry zss i k).natAbs ≤ K := entry_nl h4
  have hzK' : ∀ i k, nl (entry zss' i k).natAbs ≤ K := entry_nl h4'
  have hddK : nl (d * d').natAbs ≤ K + K := by rw [Int.natAbs_mul]; have := nl_mul d.natAbs d'.natAbs; omega
  have HGK : Hid (∀ i k, nl (G i k).num.natAbs ≤ 2 * K + 1 ∧ nl (G i k).den ≤ 2 * K + 1) := Lib.hid (fun i k => by
    rw [hGe]
    have g1 := nl_mul (entry zss i k).natAbs d'.natAbs
    have g2 := nl_mul (entry zss' i k).natAbs d.natAbs
    have g3 := nl_addI2 (entry zss i k * d') (entry zss' i k * d)
    rw [Int.natAbs_mul, Int.natAbs_mul] at g3
    have := hzK i k
    have := hzK' i k
    exact nl_ratv (Int.mul_ne_zero hd0 hd1) (by omega) (by omega))
  have HCD : Hid (nl (comDen qss.flatten) ≤ 2 * K) := Lib.hid (by
    rw [← HQ.out]
    have e : tabQ G n2 m = fracs (d * d') (tableZ (fun i k => entry zss i k * d' + entry zss' i k * d) n2 m) := by rw [fracs_table]; exact tabQ_congr fun i k _ _ => hGe i k
    rw [e]
    exact Nat.le_trans (nrmD_nl _ (Int.mul_ne_zero hd0 hd1) _ _ hddK) (by omega))
  have hA : MatS K w b a n c a2 n2 c2 d zss := ⟨l0, h1, h2, h3, h4⟩
  have hB : MatS K w b' a' n' c' a2' n2 c2' d' zss' := ⟨l0', h1', h2', h3', h4'⟩
  have HGf : Hid (∀ i k, G i k = entQ X i k + entQ Y i k) := Lib.hid (fun i k => by rw [hG])
  clear hX hY hG hGe h1 h2 h3 h4 h1' h2' h3' h4' hzK hzK' hddK
  go_enter Tryz.func47, Tryz.ntmps47
  go_upto_region 1 with (fail)
  have p0 := Blk.new w 28 #[.bool b, .slice a n c, .slice a2 n2 c2]
  have p1 := Blk.new (w.alloc (Obj.cells #[.bool b, .slice a n c, .slice a2 n2 c2] 28)) 28 #[.bool b', .slice a' n' c', .slice a2' n2 c2']
  replace p0 := p0.ext ((Below.refl _ _).alloc (Nat.le_refl _) (Obj.cells #[.bool b', .slice a' n' c', .slice a2' n2 c2'] 28))
  have r0 := Blk.new ((w.alloc (Obj.cells #[.bool b, .slice a n c, .slice a2 n2 c2] 28)).alloc (Obj.cells #[.bool b', .slice a' n' c', .slice a2' n2 c2'] 28)) 28 #[.bool false, .slice none 0 0, .slice none 0 0]
  replace p0 := p0.ext ((Below.refl _ _).alloc (Nat.le_refl _) (Obj.cells #[.bool false, .slice none 0 0, .slice none 0 0] 28))
  replace p1 := p1.ext ((Below.refl _ _).alloc (Nat.le_refl _) (Obj.cells #[.bool false, .slice none 0 0, .slice none 0 0] 28))
  have hEW : Ext w (((w.alloc (Obj.cells #[.bool b, .slice a n c, .slice a2 n2 c2] 28)).alloc (Obj.cells #[.bool b', .slice a' n' c', .slice a2' n2 c2'] 28)).alloc (Obj.cells #[.bool false, .slice none 0 0, .slice none 0 0] 28)) := ((((Below.refl _ w).alloc (by simp) _).alloc (by simp) _).alloc (by simp; omega) _)
  generalize hgW : ((w.alloc (Obj.cells #[.bool b, .slice a n c, .slice a2 n2 c2] 28)).alloc (Obj.cells #[.bool b', .slice a' n' c', .slice a2' n2 c2'] 28)).alloc (Obj.cells #[.bool false, .slice none 0 0, .slice none 0 0] 28) = W at *
  clear hgW
  simp only [World.size_alloc] at p1 r0
  have p0_ne_p1 : ¬ w.heap.size = w.heap.size + 1 := by omega
  have p0_ne_r0 : ¬ w.heap.size = w.heap.size + 1 + 1 := by omega
  have p1_ne_p0 : ¬ w.heap.size + 1 = w.heap.size := by omega
  have p1_ne_r0 : ¬ w.heap.size + 1 = w.heap.size + 1 + 1 := by omega
  have r0_ne_p0 : ¬ w.heap.size + 1 + 1 = w.heap.size := by omega
  have r0_ne_p1 : ¬ w.heap.size + 1 + 1 = w.heap.size + 1 := by omega
  replace p0_0 := p0.cell (i := 0) rfl
  replace p0_1 := p0.cell (i := 1) rfl
  replace p0_2 := p0.cell (i := 2) rfl
  replace p1_0 := p1.cell (i := 0) rfl
  replace p1_1 := p1.cell (i := 1) rfl
  replace p1_2 := p1.cell (i := 2) rfl
  replace r0_0 := r0.cell (i := 0) rfl
  replace r0_1 := r0.cell (i := 1) rfl
  replace r0_2 := r0.cell (i := 2) rfl
  have hW : w.heap.size + 1 + 1 < W.heap.size := r0.lt
  have HR0 := Lib.hid r0
  have HEW := Lib.hid hEW
  go_cut [5, 6] (fun s5 s6 wx => ∃ (ax : Option Addr) (cx : Nat) (F : List Nat) (ay : Option Addr) (cy By : Nat), s5 = .slice ax n2 cx ∧ s6 = .slice ay n2 cy ∧ Hid (Tab (2 * K + 1) W.heap.size wx ax n2 cx m F (entQ X)) ∧ Hid (0 < m → Away F wx (2 * K + 1) By ay n2 cy Y) ∧ Hid (Ext W wx) ∧ cx ≤ 9223372036854775807 ∧ n2 ≤ cx)
  case first =>
    have hEd : Ext W W.drew := (Below.refl _ _).drew
    replace p0 := p0.ext hEd; replace p0_0 := p0.cell (i := 0) rfl; replace p0_1 := p0.cell (i := 1) rfl; replace p0_2 := p0.cell (i := 2) rfl; replace p1 := p1.ext hEd; replace p1_0 := p1.cell (i := 0) rfl; replace p1_1 := p1.cell (i := 1) rfl; replace p1_2 := p1.cell (i := 2) rfl
    have hE0 := hEd
    have hsz : W.heap.size ≤ W.drew.heap.size := Nat.le_refl _
    go_region_held3 (fun w' => w'.cell? ⟨w.heap.size, 0, none⟩ = some (.bool b) ∧ w'.cell? ⟨w.heap.size, 1, none⟩ = some (.slice a n c) ∧ w'.cell? ⟨w.heap.size, 2, none⟩ = some (.slice a2 n2 c2) ∧ w'.cell? ⟨w.heap.size + 1, 0, none⟩ = some (.bool b') ∧ w'.cell? ⟨w.heap.size + 1, 1, none⟩ = some (.slice a' n' c') ∧ w'.cell? ⟨w.heap.size + 1, 2, none⟩ = some (.slice a2' n2 c2')) (first | exact ⟨p0_0, p0_1, p0_2, p1_0, p1_1, p1_2⟩ | go_keep)
      (first
      | (go_at_call 34; (with_reducible refine (r11Rows_tab K (2 * K + 1) (by omega) (by omega) _ b a a2 n c n2 c2 d zss (hA.ext (Ext.trans HEW.out hE0)) hd0 m hrow (by omega) (by omega) X HX).mono ?_); rintro e w1 ⟨ax, cx, F, rfl, hT, hFx, hE1⟩; replace hT := hT.weak (Nat.le_refl _) hsz; (try have hAw := fun hm => away_old hyr hE1 (fun g hg => (hFx hm g hg).1)); replace p0 := p0.ext hE1; replace p0_0 := p0.cell (i := 0) rfl; replace p0_1 := p0.cell (i := 1) rfl; replace p0_2 := p0.cell (i := 2) rfl; replace p1 := p1.ext hE1; replace p1_0 := p1.cell (i := 0) rfl; replace p1_1 := p1.cell (i := 1) rfl; replace p1_2 := p1.cell (i := 2) rfl; replace hsz := Nat.le_trans hsz hE1.size; replace hE0 := Ext.trans hE0 hE1)
      | (go_at_call 34; (with_reducible refine (r11Rows_tab K (2 * K + 1) (by omega) (by omega) _ b' a' a2' n' c' n2 c2' d' zss' (hB.ext (Ext.trans HEW.out hE0)) hd1 m hrow' (by omega) (by omega) Y HY).mono ?_); rintro e w1 ⟨ay, cy, Fy, rfl, hTy, hFy, hE1⟩; have hyr := hTy.read; rw [tabQ_ent2 Y n2 m (by rw [← HY.out, length_fracs]; obtain ⟨_, _, _, _, h9⟩ := hB; exact h9.len) HYL.out] at hyr; (try have hAw := fun hm => away_new hyr (fun g hg => (hFx hm g hg).2)); (try replace hT := hT.ext hE1); replace p0 := p0.ext hE1; replace p0_0 := p0.cell (i := 0) rfl; replace p0_1 := p0.cell (i := 1) rfl; replace p0_2 := p0.cell (i := 2) rfl; replace p1 := p1.ext hE1; replace p1_0 := p1.cell (i := 0) rfl; replace p1_1 := p1.cell (i := 1) rfl; replace p1_2 := p1.cell (i := 2) rfl; replace hsz := Nat.le_trans hsz hE1.size; replace hE0 := Ext.trans hE0 hE1))
    all_goals
      have HT := Lib.hid hT
      have HAW := Lib.hid hAw
      have HE0 := Lib.hid hE0
      have hcap := hT.read.cap
      have hmost := hT.read.most
      clear hT hAw hE0 hyr hFx hFy hTy p0 p1 p0_0 p0_1 p0_2 p1_0 p1_1 p1_2
      go_wp2_with fail
      go_meet
      exact ⟨ax, cx, F, ay, cy, _, rfl, rfl, HT, HAW, HE0, hmost, hcap⟩
  case rest =>
    clear p0 p1 r0 p0_0 p0_1 p0_2 p1_0 p1_1 p1_2 r0_0 r0_1 r0_2 hEW
    obtain ⟨ax, cx, F, ay, cy, By, rfl, rfl, HT, HAW, HE, hmost, hcap⟩ := hcut
    obtain ⟨wz, rfl⟩ : ∃ x : World, x = wc := ⟨_, rfl⟩
    go_wp2_with fail
    go_loopg [15] n2 (fun q vi wr => ∃ i : Nat, i ≤ n2 ∧ q = n2 - i ∧ vi = .int .i64 (i : Int) ∧ Hid (Tab (2 * K + 1) W.heap.size wr ax n2 cx m F (part G (entQ X) i 0)) ∧ Hid (0 < m → Away F wr (2 * K + 1) By ay n2 cy Y) ∧ Hid (Ext W wr))
    case atStart => exact ⟨0, Nat.zero_le _, by omega, rfl, by rw [part_zero]; exact HT, HAW, HE⟩
    case round =>
      clear HT HAW HE
      obtain ⟨i, hi, hq, rfl, HT, HAW, HE⟩ := hrel
      by_cases hin : i < n2
      · obtain ⟨b5, o5, g5, rfl, hb5, hc5⟩ := HT.out.row hin
        go_wp2_with fail
        go_loopg [23] m (fun q vi wr => ∃ k : Nat, k ≤ m ∧ q = m - k ∧ vi = .int .i64 (k : Int) ∧ Hid (Tab (2 * K + 1) W.heap.size wr (some ⟨b5, o5, none⟩) n2 cx m F (part G (entQ X) i k)) ∧ Hid (0 < m → Away F wr (2 * K + 1) By ay n2 cy Y) ∧ Hid (Ext W wr))
        case atStart => exact ⟨0, Nat.zero_le _, by omega, rfl, HT, HAW, HE⟩
        case round =>
          clear HT HAW HE hc5
          obtain ⟨k, hk, hq2, rfl, HT, HAW, HE⟩ := hrel
          by_cases hkm : k < m
          · obtain ⟨b6, o6, g, s1, a1, n1, c1, s2, a3, n3, c3, he6, hb6, hBg, hg, hgF, hbF, hc6, ⟨u0, u1, u2, u3⟩, ⟨f0, f1, f2, f3⟩, hR1, hput⟩ := HT.out.at_ hin hkm
            cases he6
            obtain ⟨b7, o7, b8, o8, c8, s4, a4, n4, c4, s5, a6, n6, c6, rfl, hb7, hne, hb8, hc7, hc8, v0, v1, v2, v3, hR2⟩ := (HAW.out (by omega)).ent HYL.out hin hkm
            rw [part_at] at hR1
            obtain ⟨nb7, nb8⟩ := hne g hgF
            have nb5 : ¬ b5 = g := fun e => hbF (by rw [e]; exact hgF)
            have nb5' : ¬ g = b5 := fun e => hbF (by rw [← e]; exact hgF)
            have nb7' : ¬ g = b7 := fun e => nb7 e.symm
            have nb8' : ¬ g = b8 := fun e => nb8 e.symm
            obtain ⟨t, ht⟩ : ∃ t, G i k = t := ⟨_, rfl⟩
            have HTG : Hid (entQ X i k + entQ Y i k = t) := Lib.hid (by rw [← ht, HGf.out])
            have HPU : Hid (updF (part G (entQ X) i k) i k t = part G (entQ X) i (k + 1)) := Lib.hid (by rw [← ht]; exact part_upd _ _ _ _)
            have HTK : Hid (nl t.num.natAbs ≤ 2 * K + 1 ∧ nl t.den ≤ 2 * K + 1) := Lib.hid (by rw [← ht]; exact HGK.out i k)
            have HPUT := Lib.hid hput
            have HGF := Lib.hid hgF
            have hp1 : (i : Int) < (n2 : Int) := by omega
            have hp2 : (k : Int) < (m : Int) := by omega
            clear ht hput hgF hbF hne HYL
            go_upto_region 8 with (fail)
            have hEd : Ext wr wr.drew := (Below.refl _ _).drew
            replace hc6 := cellE hEd hc6
            replace hc7 := cellE hEd hc7
            replace v0 := cellE hEd v0
            replace v1 := cellE hEd v1
            replace v2 := cellE hEd v2
            replace v3 := cellE hEd v3
            replace u0 := cellE hEd u0
            replace u1 := cellE hEd u1
            replace u2 := cellE hEd u2
            replace u3 := cellE hEd u3
            replace f0 := (hEd.frozen (p := ⟨g, k * 4, none⟩) hg).trans f0
            replace f1 := (hEd.frozen (p := ⟨g, k * 4 + 1, none⟩) hg).trans f1
            replace f2 := (hEd.frozen (p := ⟨g, k * 4 + 2, none⟩) hg).trans f2
            replace f3 := (hEd.frozen (p := ⟨g, k * 4 + 3, none⟩) hg).trans f3
            replace hR1 := hR1.ext hEd
            replace hR2 := hR2.ext hEd
            have hE0 := hEd
            have hsz : wr.heap.size ≤ wr.drew.heap.size := Nat.le_refl _
            refine wp_region_noPanic ?_
            refine wp_region_held_drew (S := (fun w' => w'.cell? ⟨b5, o5 + i, none⟩ = some (.slice (some ⟨g, 0, none⟩) m m) ∧ w'.cell? ⟨b7, o7 + i, none⟩ = some (.slice (some ⟨b8, o8, none⟩) m c8) ∧ w'.cell? ⟨b8, o8 + k * 4, none⟩ = some (.bool s4) ∧ w'.cell? ⟨b8, o8 + k * 4 + 1, none⟩ = some (.slice a4 n4 c4) ∧ w'.cell? ⟨b8, o8 + k * 4 + 2, none⟩ = some (.bool s5) ∧ w'.cell? ⟨b8, o8 + k * 4 + 3, none⟩ = some (.slice a6 n6 c6))) (by kernel_rfl) ⟨hc6, hc7, v0, v1, v2, v3⟩ (fun hHeld => ?_)
            refine takeD 0 26 (v := ?_) rfl rfl (by kernel_rfl) (by kernel_rfl) (by kernel_rfl) (fun _ _ _ h => h) (Or.inl ⟨by kernel_rfl, ?hy⟩) hHeld ?_
            case hy => (intro w hSw; (try dsimp only at hSw); go_simp; try with_reducible rfl)
            try simp only [List.setIfInBounds_toArray, List.set_cons_zero, List.set_cons_succ]
            refine takeD 1 27 (v := ?_) rfl rfl (by kernel_rfl) (by kernel_rfl) (by kernel_rfl) (fun _ _ _ h => h) (Or.inl ⟨by kernel_rfl, ?hy⟩) hHeld ?_
            case hy => (intro w hSw; (try dsimp only at hSw); go_simp; try with_reducible rfl)
            try simp only [List.setIfInBounds_toArray, List.set_cons_zero, List.set_cons_succ]
            refine takeD 2 28 (v := ?_) rfl rfl (by kernel_rfl) (by kernel_rfl) (by kernel_rfl) (fun _ _ _ h => h) (Or.inl ⟨by kernel_rfl, ?hy⟩) hHeld ?_
            case hy => (intro w hSw; (try dsimp only at hSw); go_simp; try with_reducible rfl)
            try simp only [List.setIfInBounds_toArray, List.set_cons_zero, List.set_cons_succ]
            refine takeD 3 29 (v := ?_) rfl rfl (by kernel_rfl) (by kernel_rfl) (by kernel_rfl) (fun _ _ _ h => h) (Or.inl ⟨by kernel_rfl, ?hy⟩) hHeld ?_
            case hy => (intro w hSw; (try dsimp only at hSw); go_simp; try with_reducible rfl)
            try simp only [List.setIfInBounds_toArray, List.set_cons_zero, List.set_cons_succ]
            refine takeD 4 30 (v := ?_) rfl rfl (by kernel_rfl) (by kernel_rfl) (by kernel_rfl) (fun _ _ _ h => h) (Or.inl ⟨by kernel_rfl, ?hy⟩) hHeld ?_
            case hy => (intro w hSw; (try dsimp only at hSw); go_simp; try with_reducible rfl)
            try simp only [List.setIfInBounds_toArray, List.set_cons_zero, List.set_cons_succ]
            refine takeD 5 31 (v := ?_) rfl rfl (by kernel_rfl) (by kernel_rfl) (by kernel_rfl) (fun _ _ _ h => h) (Or.inl ⟨by kernel_rfl, ?hy⟩) hHeld ?_
            case hy => (intro w hSw; (try dsimp only at hSw); go_simp; try with_reducible rfl)
            try simp only [List.setIfInBounds_toArray, List.set_cons_zero, List.set_cons_succ]
            refine takeD 6 32 (v := ?_) rfl rfl (by kernel_rfl) (by kernel_rfl) (by kernel_rfl) (fun _ _ _ h => h) (Or.inl ⟨by kernel_rfl, ?hy⟩) hHeld ?_
            case hy => (intro w hSw; (try dsimp only at hSw); go_simp; try with_reducible rfl)
            try simp only [List.setIfInBounds_toArray, List.set_cons_zero, List.set_cons_succ]
            refine takeD 7 33 (v := ?_) rfl rfl (by kernel_rfl) (by kernel_rfl) (by kernel_rfl) (fun _ _ _ h => h) (Or.inl ⟨by kernel_rfl, ?hy⟩) hHeld ?_
            case hy => (intro w hSw; (try dsimp only at hSw); go_simp; try with_reducible rfl)
            try simp only [List.setIfInBounds_toArray, List.set_cons_zero, List.set_cons_succ]
            refine takeD 8 34 (v := ?_) rfl rfl (by kernel_rfl) (by kernel_rfl) (by kernel_rfl) (fun _ _ _ h => h) (Or.inl ⟨by kernel_rfl, ?hy⟩) hHeld ?_
            case hy => (intro w hSw; (try dsimp only at hSw); go_simp; try with_reducible rfl)
            try simp only [List.setIfInBounds_toArray, List.set_cons_zero, List.set_cons_succ]
            refine takeD 9 35 (v := ?_) rfl rfl (by kernel_rfl) (by kernel_rfl) (by kernel_rfl) (fun _ _ _ h => h) (Or.inl ⟨by kernel_rfl, ?hy⟩) hHeld ?_
            case hy => (intro w hSw; (try dsimp only at hSw); go_simp; try with_reducible rfl)
            try simp only [List.setIfInBounds_toArray, List.set_cons_zero, List.set_cons_succ]
            refine takeD 10 36 (v := ?_) rfl rfl (by kernel_rfl) (by kernel_rfl) (by kernel_rfl) (fun _ _ _ h => h) (Or.inl ⟨by kernel_rfl, ?hy⟩) hHeld ?_
            case hy => (intro w hSw; (try dsimp only at hSw); go_simp; try with_reducible rfl)
            try simp only [List.setIfInBounds_toArray, List.set_cons_zero, List.set_cons_succ]
            refine takeD 12 38 (v := ?_) rfl rfl (by kernel_rfl) (by kernel_rfl) (by kernel_rfl) (fun _ _ _ h => h) (Or.inl ⟨by kernel_rfl, ?hy⟩) hHeld ?_
            case hy => (intro w hSw; (try dsimp only at hSw); go_simp; try with_reducible rfl)
            try simp only [List.setIfInBounds_toArray, List.set_cons_zero, List.set_cons_succ]
            refine takeD 13 39 (v := ?_) rfl rfl (by kernel_rfl) (by kernel_rfl) (by kernel_rfl) (fun _ _ _ h => h) (Or.inl ⟨by kernel_rfl, ?hy⟩) hHeld ?_
            case hy => (intro w hSw; (try dsimp only at hSw); go_simp; try with_reducible rfl)
            try simp only [List.setIfInBounds_toArray, List.set_cons_zero, List.set_cons_succ]
            refine takeD 14 40 (v := ?_) rfl rfl (by kernel_rfl) (by kernel_rfl) (by kernel_rfl) (fun _ _ _ h => h) (Or.inl ⟨by kernel_rfl, ?hy⟩) hHeld ?_
            case hy => (intro w hSw; (try dsimp only at hSw); go_simp; try with_reducible rfl)
            try simp only [List.setIfInBounds_toArray, List.set_cons_zero, List.set_cons_succ]
            refine takeD 15 41 (v := ?_) rfl rfl (by kernel_rfl) (by kernel_rfl) (by kernel_rfl) (fun _ _ _ h => h) (Or.inl ⟨by kernel_rfl, ?hy⟩) hHeld ?_
            case hy => (intro w hSw; (try dsimp only at hSw); go_simp; try with_reducible rfl)
            try simp only [List.setIfInBounds_toArray, List.set_cons_zero, List.set_cons_succ]
            refine takeD 16 42 (v := ?_) rfl rfl (by kernel_rfl) (by kernel_rfl) (by kernel_rfl) (fun _ _ _ h => h) (Or.inl ⟨by kernel_rfl, ?hy⟩) hHeld ?_
            case hy => (intro w hSw; (try dsimp only at hSw); go_simp; try with_reducible rfl)
            try simp only [List.setIfInBounds_toArray, List.set_cons_zero, List.set_cons_succ]
            refine takeD 17 43 (v := ?_) rfl rfl (by kernel_rfl) (by kernel_rfl) (by kernel_rfl) (fun _ _ _ h => h) (Or.inl ⟨by kernel_rfl, ?hy⟩) hHeld ?_
            case hy => (intro w hSw; (try dsimp only at hSw); go_simp; try with_reducible rfl)
            try simp only [List.setIfInBounds_toArray, List.set_cons_zero, List.set_cons_succ]
            refine takeD 18 44 (v := ?_) rfl rfl (by kernel_rfl) (by kernel_rfl) (by kernel_rfl) (fun _ _ _ h => h) (Or.inl ⟨by kernel_rfl, ?hy⟩) hHeld ?_
            case hy => (intro w hSw; (try dsimp only at hSw); go_simp; try with_reducible rfl)
            try simp only [List.setIfInBounds_toArray, List.set_cons_zero, List.set_cons_succ]
            refine stepD 11 rfl (by kernel_rfl) (fun Kc hKc => ?_)
            refine Eq.mpr (if_pos (by kernel_rfl)) ?_
            go_simp
            refine hKc.out _ _ ⟨hc6, hc7, v0, v1, v2, v3⟩ (fun hHeld => ?_)
            clear hKc Kc
            try simp only [Act.put, List.setIfInBounds_toArray, List.set_cons_zero, List.set_cons_succ]
            refine stepD 19 rfl (by kernel_rfl) (fun Kc hKc => ?_)
            refine Eq.mpr (if_pos (by kernel_rfl)) ?_
            go_simp
            ((with_reducible refine (r5Add_s (2 * K + 1) (2 * K + 1) (by omega) _ s1 s2 s4 s5 a1 a3 a4 a6 n1 c1 n3 c3 n4 c4 n6 c6 (entQ X i k) (entQ Y i k) hR1 hR2 t HTG).mono ?_); rintro e w1 ⟨a9, n9, c9, a10, n10, c10, rfl, h9, h10, hE1⟩; replace hc6 := cellE hE1 hc6; replace hc7 := cellE hE1 hc7; replace v0 := cellE hE1 v0; replace v1 := cellE hE1 v1; replace v2 := cellE hE1 v2; replace v3 := cellE hE1 v3; replace u0 := cellE hE1 u0; replace u1 := cellE hE1 u1; replace u2 := cellE hE1 u2; replace u3 := cellE hE1 u3; replace f0 := (hE1.frozen (p := ⟨g, k * 4, none⟩) hg).trans f0; replace f1 := (hE1.frozen (p := ⟨g, k * 4 + 1, none⟩) hg).trans f1; replace f2 := (hE1.frozen (p := ⟨g, k * 4 + 2, none⟩) hg).trans f2; replace f3 := (hE1.frozen (p := ⟨g, k * 4 + 3, none⟩) hg).trans f3; have hE5 := Ext.trans hE0 hE1)
            go_wp2_with fail
            refine hKc.out _ _ ⟨hc6, hc7, v0, v1, v2, v3⟩ (fun hHeld => ?_)
            clear hKc Kc
            try simp only [Act.put, List.setIfInBounds_toArray, List.set_cons_zero, List.set_cons_succ]
            refine takeD 20 46 (v := ?_) rfl rfl (by kernel_rfl) (by kernel_rfl) (by kernel_rfl) (fun _ _ _ h => h) (Or.inl ⟨by kernel_rfl, ?hy⟩) hHeld ?_
            case hy => (intro w hSw; (try dsimp only at hSw); go_simp; try with_reducible rfl)
            try simp only [List.setIfInBounds_toArray, List.set_cons_zero, List.set_cons_succ]
            refine stepD 21 rfl (by kernel_rfl) (fun Kc hKc => ?_)
            refine Eq.mpr (if_pos (by kernel_rfl)) ?_
            go_simp
            refine hKc.out _ _ (by go_keep) (fun hHeld => ?_)
            clear hKc Kc
            try simp only [Act.put, List.setIfInBounds_toArray, List.set_cons_zero, List.set_cons_succ]
            refine wpAnyH_done (by kernel_rfl) ?_ _
            refine NoPanic.normal ?_
            all_goals
              have hT2 := HPUT.out w1 _ t (HT.out.ext hE5) (ratK_mk (h9.mono (show W.heap.size ≤ wr.drew.heap.size from HE.out.size) (Kept.refl _ _)) (h10.mono (show W.heap.size ≤ wr.drew.heap.size from HE.out.size) (Kept.refl _ _)) HTK.out.1 HTK.out.2)
              rw [HPU.out] at hT2
              have HT2 := Lib.hid hT2
              have HAW2 := Lib.hid (fun hm => ((HAW.out hm).ext hE5).set HGF.out [.bool (decide (t.num < 0)), .slice a9 n9 c9, .bool false, .slice a10 n10 c10] (k * 4))
              have HE2 := Lib.hid (ext_set4' (Ext.trans HE.out hE5) (k * 4) (.bool (decide (t.num < 0))) (.slice a9 n9 c9) (.bool false) (.slice a10 n10 c10) (b := g) (by omega))
              clear hT2 h9 h10 hE5 hE0 hE1 hR1 hR2 hc6 hc7 v0 v1 v2 v3 u0 u1 u2 u3 f0 f1 f2 f3 HPUT
              go_wp2_with fail
              go_roundg (m - (k + 1))
              case measure => omega
              case rel => exact ⟨k + 1, by omega, rfl, by go_num, HT2, HAW2, HE2⟩
          · obtain rfl : k = m := by omega
            have HT3 := Lib.hid (HT.out.congr (g := part G (entQ X) (i + 1) 0) (fun i' k' _ hk' => part_row _ _ _ _ _ _ hk'))
            go_wp2_with fail
            go_roundg (n2 - (i + 1))
            case measure => omega
            case rel => exact ⟨i + 1, by omega, rfl, by go_num, HT3, HAW, HE⟩
      · obtain rfl : i = n2 := by omega
        have hT := HT.out.congr (g := G) (fun i' k' hi' _ => part_all _ _ _ _ _ hi')
        have hR := hT.read
        rw [HQ.out] at hR
        have HRR := Lib.hid (Sl.mono hR (Nat.zero_le _) (Kept.refl _ _))
        have hrowl : ∀ qs ∈ qss, qs.length = m := by rw [← HQ.out]; exact row_tabQ _ _ _
        have hfl : qss.flatten.length ≤ 1099511627776 := by
          rw [List.length_flatten, show qss.map List.length = List.replicate i m from ?_, List.sum_replicate_nat]
          · exact Nat.mul_le_mul hn2 hm
          · rw [← HQ.out]
            refine List.ext_getElem (by simp [tabQ]) fun t h1 h2 => ?_
            rw [List.getElem_map, List.getElem_replicate]
            exact row_tabQ _ _ _ _ (List.getElem_mem _)
        have HRL := Lib.hid hrowl
        have HFL := Lib.hid hfl
        clear hT hR hrowl hfl
        go_wp2_with fail
        (with_reducible refine (from_any (2 * K + 1) (2 * K) (by omega) wr ax i cx qss HRR.out (by omega) HFL.out HCD.out _ (Lib.hid rfl) (Lib.hid (fun qs hq => by rw [HRL.out qs hq]; omega))).mono ?_)
        rintro e w5 ⟨a9, n9, c9, a10, n10, c10, rfl, h9, h10, hE5⟩
        have r0 := HR0.out.ext (Ext.trans HE.out hE5)
        skip
        replace r0_0 := r0.cell (i := 0) rfl
        replace r0_1 := r0.cell (i := 1) rfl
        replace r0_2 := r0.cell (i := 2) rfl
        replace r0_f0 := r0.free 0
        replace r0_f1 := r0.free 1
        replace r0_f2 := r0.free 2
        replace r0_lt := r0.lt
        have hW2 := HE.out.size
        have HF : Hid (RRefB w qss (.returned (.agg #[.bool false, .slice a9 n9 c9, .slice a10 n10 c10])) (((w5.setCell ⟨w.heap.size + 1 + 1, 0, none⟩ (.bool false)).setCell ⟨w.heap.size + 1 + 1, 1, none⟩ (.slice a9 n9 c9)).setCell ⟨w.heap.size + 1 + 1, 2, none⟩ (.slice a10 n10 c10))) := Lib.hid (RFrom.refB (RFrom.box (w := w) (r := w.heap.size + 1 + 1) (v0 := .bool false) (v1 := .slice a9 n9 c9) (v2 := .slice a10 n10 c10) (by omega) (show w.heap.size + 1 + 1 < wr.heap.size by omega) (Ext.trans HEW.out (Ext.trans HE.out hE5)) h9 h10))
        clear h9 h10 hE5
        have r02 : Blk ((((w5).setCell ⟨w.heap.size + 1 + 1, 0, none⟩ (.bool false)).setCell ⟨w.heap.size + 1 + 1, 1, none⟩ (.slice a9 n9 c9)).setCell ⟨w.heap.size + 1 + 1, 2, none⟩ (.slice a10 n10 c10)) _ _ #[.bool false, .slice a9 n9 c9, .slice a10 n10 c10] := (((r0).set 0 (.bool false)).set 1 (.slice a9 n9 c9)).set 2 (.slice a10 n10 c10)
        have hr00 := r02.cell (i := 0) rfl
        have hr01 := r02.cell (i := 1) rfl
        have hr02 := r02.cell (i := 2) rfl
        go_wp2_with fail
        exact bodyPost_ret (v := .agg #[.bool false, .slice a9 n9 c9, .slice a10 n10 c10]) (by simp [results, Tryz.results47, go_sem, hr00, hr01, hr02]) rfl HF.out
theorem r11Add_any (K : Nat) (hK : 8 * K + 8 ≤ 549755813888) (w : World) (b : Bool) (a a2 : Option Addr) (n c n2 c2 : Nat) (d : Int) (zss : List (List Int)) (h : MatS K w b a n c a2 n2 c2 d zss) (b' : Bool) (a' a2' : Option Addr) (n' c' c2' : Nat) (d' : Int) (zss' : List (List Int)) (h' : MatS K w b' a' n' c' a2' n2 c2' d' zss') (hd0 : d ≠ 0) (hd1 : d' ≠ 0) (m : Nat) (hrow : Hid (∀ zs ∈ zss, zs.length = m)) (hrow' : Hid (∀ zs ∈ zss', zs.length = m)) (hn2 : n2 ≤ 1048576) (hm : m ≤ 1048576) (qss : List (List Rat)) (hq : Hid (joinQ (· + ·) (fracs d zss) (fracs d' zss') n2 m = qss)) :
    Calls Tryz.prog 47 #[.agg #[.bool b, .slice a n c, .slice a2 n2 c2], .agg #[.bool b', .slice a' n' c', .slice a2' n2 c2']] w (RRef w qss) :=
  (r11Add_b K hK w b a a2 n c n2 c2 d zss h b' a' a2' n' c' c2' d' zss' h' hd0 hd1 m hrow hrow' hn2 hm qss hq).mono fun _ _ hr => hr.ref
end Go.Proofs.YtbhenelehhiakaaGreat
/-
  The references: Copy.
-/
namespace Go.Proofs.YtbhenelehhiakaaGreat
open Go.RowKit

theorem Sl.cellOne2 {α : Type} {r : Rd α} {B : Nat} {w : World} {a : Option Addr} {n c : Nat} {xs : List (List α)} (h : Sl r.slice B w a n c xs) {i : Nat} (hi : i < n) : ∃ b o a1 n1 c1 x, a = some ⟨b, o, none⟩ ∧ b < w.heap.size ∧ xs[i]? = some x ∧ w.cell? ⟨b, o + i, none⟩ = some (.slice a1 n1 c1) ∧ Sl r B w a1 n1 c1 x := by
  have hl : i < xs.length := by rw [h.len]; exact hi
  obtain ⟨b, o, cs, ha, ⟨a1, n1, c1, rfl, h1⟩, hc⟩ := h.at_ i hl
  refine ⟨b, o, a1, n1, c1, _, ha, cel_lt (hc 0 (by simp)), List.getElem?_eq_getElem hl, ?_, h1⟩
  simpa [Rd.slice] using (hc 0 (by simp)).cell
def RCopyI (w : World) (b : Bool) (n : Nat) (l : Nt) (e : Ending) (w' : World) : Prop := ∃ a2 c2, e = .returned (.agg #[.bool b, .slice a2 n c2]) ∧ NatS w.heap.size w' a2 n c2 l ∧ Ext w w'
set_option maxRecDepth 100000 in
set_option maxHeartbeats 4000000 in
theorem r3Copy_any (w : World) (b : Bool) (a : Option Addr) (n c : Nat) (l : Nt) (h : NatS 0 w a n c l) (hn : n ≤ 1099511627776) :
    Calls Tryz.prog 78 #[.agg #[.bool b, .slice a n c]] w (RCopyI w b n l) := by
  obtain ⟨i0, hi, hz0, hz1, hz2⟩ := info_parts info_u32
  go_enter Tryz.func78, Tryz.ntmps78
  go_wp2_with fail
  have p0 := Blk.new w 25 #[.bool b, .slice a n c]
  have r0 := Blk.new (w.alloc (Obj.cells #[.bool b, .slice a n c] 25)) 25 #[.bool false, .slice none 0 0]
  replace p0 := p0.ext ((Below.refl _ _).alloc (Nat.le_refl _) (Obj.cells #[.bool false, .slice none 0 0] 25))
  have hEW : Ext w ((w.alloc (Obj.cells #[.bool b, .slice a n c] 25)).alloc (Obj.cells #[.bool false, .slice none 0 0] 25)) := (((Below.refl _ w).alloc (by simp) _).alloc (by simp) _)
  generalize hgW : (w.alloc (Obj.cells #[.bool b, .slice a n c] 25)).alloc (Obj.cells #[.bool false, .slice none 0 0] 25) = W at *
  clear hgW
  simp only [World.size_alloc] at r0
  have p0_ne_r0 : ¬ w.heap.size = w.heap.size + 1 := by omega
  have r0_ne_p0 : ¬ w.heap.size + 1 = w.heap.size := by omega
  replace p0_0 := p0.cell (i := 0) rfl
  replace p0_1 := p0.cell (i := 1) rfl
  replace r0_0 := r0.cell (i := 0) rfl
  replace r0_1 := r0.cell (i := 1) rfl
  replace r0_f0 := r0.free 0
  replace r0_f1 := r0.free 1
  replace r0_lt := r0.lt
  have hEd : Ext W W.drew := (Below.refl _ _).drew
  replace p0 := p0.ext hEd; replace p0_0 := p0.cell (i := 0) rfl; replace p0_1 := p0.cell (i := 1) rfl; replace r0 := r0.ext hEd; replace r0_0 := r0.cell (i := 0) rfl; replace r0_1 := r0.cell (i := 1) rfl; replace r0_f0 := r0.free 0; replace r0_f1 := r0.free 1; replace r0_lt := r0.lt
  have hE0 := Ext.trans hEW hEd
  have h1 := h.ext (Nat.le_refl _) hE0
  have hrl : w.heap.size + 1 < W.drew.heap.size := r0_lt
  have na : ¬ w.heap.size = w.heap.size + 1 := by omega
  have na' : ¬ w.heap.size + 1 = w.heap.size := by omega
  have hEQ : Ext W.drew (W.alloc (Obj.cells #[] 126)).drew := (Below.refl _ _).alloc (Nat.le_refl _) _
  have hq := p0.ext hEQ
  have hq0 := hq.cell (i := 0) rfl
  have hq1 := hq.cell (i := 1) rfl
  have h2 := h1.ext (Nat.le_refl _) hEQ
  have hB : Blk (W.alloc (Obj.cells #[] 126)).drew W.heap.size 126 (words ([] ++ [])) := Blk.new W _ #[]
  go_region_held3 (fun w' => w'.cell? ⟨w.heap.size, 0, none⟩ = some (.bool b) ∧ w'.cell? ⟨w.heap.size, 1, none⟩ = some (.slice a n c)) (first | exact ⟨p0_0, p0_1⟩ | exact ⟨hq0, hq1⟩ | exact ⟨hw0, hw1⟩ | go_keep)
    (first
    | (refine step_append_src rfl (.tmp 5) (.tmp 7) 23 rfl W.heap.size 126 i0 _ 1 4 under_nat hi hz0 hz1 hz2 rfl (by decide) _ 0 _ rfl (owns_of_blk (l := []) (m := []) (c := 0) hB (Nat.le_refl _) rfl rfl (by omega)) a n c (l.map fun x : Nat => Value.int .u32 (x : Int)) rfl (NatS.src h2).1 (by rw [List.length_map, Nat.mul_one]; exact h2.len) (NatS.src h2).2 (by simp [Value.oneCell']) (by unfold maxLen; omega) (by omega) hEQ.size ?_; intro v' w2 hown' hgrow hat; rw [Nat.zero_add] at hown'; obtain ⟨a5, c5, rfl, h5⟩ := natS_of_owns' (l := l) hown' h.small; have hE2 : Ext w w2 := (Ext.trans hE0 hEQ).grown hgrow (Ext.trans hE0 hEQ).size (fun k e => by cases e; exact hEW.size); have hgE : Ext W w2 := ((Below.refl W.heap.size W).alloc (Nat.le_refl _) (Obj.cells #[] 126)).drew.grown hgrow hEQ.size (fun k e => by cases e; exact Nat.le_refl _); have hw0 := cellE hgE (show W.cell? ⟨w.heap.size, 0, none⟩ = some (.bool b) from p0_0); have hw1 := cellE hgE (show W.cell? ⟨w.heap.size, 1, none⟩ = some (.slice a n c) from p0_1); replace r0 := Blk.ext (show Blk W (w.heap.size + 1) _ _ from r0) hgE; replace r0_0 := r0.cell (i := 0) rfl; replace r0_1 := r0.cell (i := 1) rfl; replace r0_f0 := r0.free 0; replace r0_f1 := r0.free 1; replace r0_lt := r0.lt))
  have HF : Hid (RCopyI w b n l (.returned (.agg #[.bool b, .slice a5 n c5])) ((w2.setCell ⟨w.heap.size + 1, 0, none⟩ (.bool b)).setCell ⟨w.heap.size + 1, 1, none⟩ (.slice a5 n c5))) := Lib.hid ⟨a5, c5, rfl, (h5.mono (Nat.le_refl _) (Kept.trans (kept_set _ _ _ hrl) (kept_set _ _ _ hrl))).mono hEW.size (Kept.refl _ _), Below.setCell (Below.setCell hE2 (p := ⟨w.heap.size + 1, 0, none⟩) (by simp) _) (p := ⟨w.heap.size + 1, 1, none⟩) (by simp) _⟩
  have r02 : Blk (((w2).setCell ⟨w.heap.size + 1, 0, none⟩ (.bool b)).setCell ⟨w.heap.size + 1, 1, none⟩ (.slice a5 n c5)) _ _ #[.bool b, .slice a5 n c5] := ((r0).set 0 (.bool b)).set 1 (.slice a5 n c5)
  have hr00 := r02.cell (i := 0) rfl
  have hr01 := r02.cell (i := 1) rfl
  go_wp2_with fail
  exact bodyPost_ret (v := .agg #[.bool b, .slice a5 n c5]) (by simp [results, Tryz.results78, go_sem, hr00, hr01]) rfl HF.out

def RCopyL (w : World) (n : Nat) (xs : List It) (e : Ending) (w' : World) : Prop := ∃ a2 c2, e = .returned (.slice a2 n c2) ∧ Sl rInt w.heap.size w' a2 n c2 xs ∧ Ext w w'
set_option maxRecDepth 100000 in
set_option maxHeartbeats 8000000 in
theorem r3CopyAll_any (w : World) (a : Option Addr) (n c : Nat) (xs : List It) (h : Sl rInt 0 w a n c xs) (hx : Hid (∀ x ∈ xs, x.2.length ≤ 1099511627776)) (hn : n ≤ 1099511627776) :
    Calls Tryz.prog 79 #[.slice a n c] w (RCopyL w n xs) := by
  obtain ⟨cur, hcur, hmk⟩ := make_any under_ints info_int n n (Nat.le_refl _) (by omega) (by omega)
  have hmk : ∀ w, (Instr.makeSlice 30 (.int .i64 (n : Int)) (.int .i64 (n : Int))).run Tryz.prog w = .ok (.slice (some ⟨w.heap.size, 0, none⟩) n n) (w.alloc (.cells cur 25)) := hmk
  have HCur := Lib.hid hcur
  have HS := Lib.hid h
  have hcap := h.cap
  have hmost := h.most
  have hlen := Lib.hid h.len
  clear hcur h
  have hEA : Ext w (w.alloc (Obj.cells cur 25)) := (Below.refl _ _).alloc (Nat.le_refl _) _
  have HEA := Lib.hid hEA
  have HG0 : Hid (Grp rInt w.heap.size 25 (w.alloc (Obj.cells cur 25)) (.slice (some ⟨w.heap.size, 0, none⟩) 0 n) 0 [] []) := Lib.hid ⟨rfl, rfl, World.ownsRow_made w cur n (Nat.le_refl _) (by unfold maxLen; omega) HCur.out, fun k hk => absurd hk (by simp)⟩
  clear hEA
  go_enter Tryz.func79, Tryz.ntmps79
  go_wp2_with fail
  go_loopg [11] n (fun k vi w2 => ∃ (j : Nat), j ≤ n ∧ k = n - j ∧ vi = .int .i64 (j : Int) ∧ Hid (∃ css, Grp rInt w.heap.size 25 w2 (.slice (some ⟨w.heap.size, 0, none⟩) j n) j (xs.take j) css) ∧ Hid (Ext w w2))
  case atStart => exact ⟨0, Nat.zero_le _, by omega, rfl, Lib.hid ⟨[], HG0.out⟩, HEA⟩
  case round =>
    clear HG0 HEA
    obtain ⟨j, hj, hk2, rfl, HGj, HEj⟩ := hrel
    by_cases hjc : j < n
    · obtain ⟨css, hGj⟩ := HGj.out
      have hgl := hGj.cell.1
      obtain ⟨b7, o7, s7, a7, n7, c7, l7, rfl, hb7, hz7, hc9, hc10, h7⟩ := (HS.out.ext (Nat.le_refl _) HEj.out).getIt hjc
      obtain ⟨hkl, hze⟩ := List.getElem?_eq_some_iff.1 hz7
      have HTK : Hid (xs.take (j + 1) = xs.take j ++ [(s7, l7)]) := Lib.hid (by rw [List.take_succ_eq_append_getElem hkl, hze])
      have hn7 : n7 ≤ 1099511627776 := by rw [← h7.len]; exact hx.out _ (List.mem_of_getElem? hz7)
      have H7 := Lib.hid h7
      have hjc' : (j : Int) < (n : Int) := by omega
      have hszr := HEj.out.size
      clear hz7 hze h7 hkl
      go_wp2_with fail
      have u := Blk.new wr 25 #[.bool s7, .slice a7 n7 c7]
      have hEW9 : Ext wr (wr.alloc (Obj.cells #[.bool s7, .slice a7 n7 c7] 25)) := ((Below.refl _ wr).alloc (by simp) _)
      generalize hgW9 : wr.alloc (Obj.cells #[.bool s7, .slice a7 n7 c7] 25) = W9 at *
      clear hgW9
      replace u_0 := u.cell (i := 0) rfl
      replace u_1 := u.cell (i := 1) rfl
      (with_reducible refine (r3Copy_any W9 s7 a7 n7 c7 l7 (H7.out.ext (Nat.le_refl _) hEW9) hn7).mono ?_)
      rintro e w5 ⟨a8, c8, rfl, h8, hE9⟩
      have hE5 := Ext.trans hEW9 hE9
      have hsz5 := hE5.size
      have hG5 := hGj.keep hE5.size (fun b _ h2 => hE5.block b h2)
      obtain ⟨hg1, hg2, hg3⟩ := hG5.cell
      have q0 := hg3 (j * 2) (show j * 2 < n * 2 by omega)
      have q1 := hg3 (j * 2 + 1) (show j * 2 + 1 < n * 2 by omega)
      obtain ⟨⟨u0, s0⟩, f0⟩ := q0
      obtain ⟨⟨u1, s1⟩, f1⟩ := q1
      have HP := Lib.hid (hG5.put hjc (x := (s7, l7)) (cs := [.bool s7, .slice a8 n7 c8]) (Bx := wr.heap.size) (rInt_mk (h8.mono hEW9.size (Kept.refl _ _))) hszr hgl)
      have HEP := Lib.hid (Ext.trans HEj.out hE5)
      have HE8 := Lib.hid (Below.setCell (Below.setCell HEP.out (p := ⟨w.heap.size, j * 2, none⟩) (Nat.le_refl _) (.bool s7)) (p := ⟨w.heap.size, j * 2 + 1, none⟩) (Nat.le_refl _) (.slice a8 n7 c8))
      clear hG5 hg3 h8 hE5 hE9 hEW9 u u_0 u_1 hc9 hc10 hGj
      go_wp2_with fail
      go_roundg (n - (j + 1))
      case measure => omega
      case rel => exact ⟨j + 1, by omega, rfl, by go_num, Lib.hid ⟨css ++ [[.bool s7, .slice a8 n7 c8]], by rw [HTK.out]; exact HP.out⟩, HE8⟩
    · obtain rfl : j = n := by omega
      obtain ⟨css, hGj⟩ := HGj.out
      obtain ⟨ar, cr, hv, hsr⟩ := hGj.sl
      cases hv
      rw [List.take_of_length_le (by rw [hlen.out]; exact Nat.le_refl _)] at hsr
      have HSR := Lib.hid hsr
      clear hGj hsr
      go_wp2_with fail
      go_ret
      exact ⟨_, _, rfl, HSR.out, HEj.out⟩
def RCopyM (w : World) (b : Bool) (n n2 : Nat) (l : Nt) (xss : List (List It)) (e : Ending) (w' : World) : Prop := ∃ a c a2 c2, e = .returned (.agg #[.bool b, .slice a n c, .slice a2 n2 c2]) ∧ NatS w.heap.size w' a n c l ∧ Sl rInts w.heap.size w' a2 n2 c2 xss ∧ Ext w w'
set_option maxRecDepth 100000 in
set_option maxHeartbeats 8000000 in
theorem r11Copy_any (w : World) (b : Bool) (a a2 : Option Addr) (n c n2 c2 : Nat) (l : Nt) (xss : List (List It)) (h : NatS 0 w a n c l) (h2 : Sl rInts 0 w a2 n2 c2 xss) (hx : Hid (∀ xs ∈ xss, xs.length ≤ 1099511627776 ∧ ∀ x ∈ xs, x.2.length ≤ 1099511627776)) (hn : n ≤ 1099511627776) (hn2 : n2 ≤ 1099511627776) :
    Calls Tryz.prog 22 #[.agg #[.bool b, .slice a n c, .slice a2 n2 c2]] w (RCopyM w b n n2 l xss) := by
  have HS := Lib.hid h2
  have hcap := h2.cap
  have hmost := h2.most
  have hlen := Lib.hid h2.len
  clear h2
  go_enter Tryz.func22, Tryz.ntmps22
  go_wp2_with fail
  have p0 := Blk.new w 28 #[.bool b, .slice a n c, .slice a2 n2 c2]
  have r0 := Blk.new (w.alloc (Obj.cells #[.bool b, .slice a n c, .slice a2 n2 c2] 28)) 28 #[.bool false, .slice none 0 0, .slice none 0 0]
  replace p0 := p0.ext ((Below.refl _ _).alloc (Nat.le_refl _) (Obj.cells #[.bool false, .slice none 0 0, .slice none 0 0] 28))
  have hEW : Ext w ((w.alloc (Obj.cells #[.bool b, .slice a n c, .slice a2 n2 c2] 28)).alloc (Obj.cells #[.bool false, .slice none 0 0, .slice none 0 0] 28)) := (((Below.refl _ w).alloc (by simp) _).alloc (by simp) _)
  generalize hgW : (w.alloc (Obj.cells #[.bool b, .slice a n c, .slice a2 n2 c2] 28)).alloc (Obj.cells #[.bool false, .slice none 0 0, .slice none 0 0] 28) = W at *
  clear hgW
  simp only [World.size_alloc] at r0
  have p0_ne_r0 : ¬ w.heap.size = w.heap.size + 1 := by omega
  have r0_ne_p0 : ¬ w.heap.size + 1 = w.heap.size := by omega
  replace p0_0 := p0.cell (i := 0) rfl
  replace p0_1 := p0.cell (i := 1) rfl
  replace p0_2 := p0.cell (i := 2) rfl
  replace r0_0 := r0.cell (i := 0) rfl
  replace r0_1 := r0.cell (i := 1) rfl
  replace r0_2 := r0.cell (i := 2) rfl
  have hW : w.heap.size + 1 < W.heap.size := r0.lt
  (with_reducible refine (r3Copy_any W b a n c l (h.ext (Nat.le_refl _) hEW) hn).mono ?_)
  rintro e w1 ⟨a5, c5, rfl, h5, hE1⟩
  replace p0 := p0.ext hE1; replace p0_0 := p0.cell (i := 0) rfl; replace p0_1 := p0.cell (i := 1) rfl; replace p0_2 := p0.cell (i := 2) rfl
  have HR0 := Lib.hid (r0.ext hE1)
  have H5 := Lib.hid h5
  have HE1 := Lib.hid (Ext.trans hEW hE1)
  have hsz1 := hE1.size
  clear h5 hE1 hEW r0 r0_0 r0_1 r0_2 h
  go_upto_region 2 with (fail)
  have m := Blk.new w1 28 #[.bool b, .slice a5 n c5, .slice none 0 0]
  have hEW2 : Ext w1 (w1.alloc (Obj.cells #[.bool b, .slice a5 n c5, .slice none 0 0] 28)) := ((Below.refl _ w1).alloc (by simp) _)
  generalize hgW2 : w1.alloc (Obj.cells #[.bool b, .slice a5 n c5, .slice none 0 0] 28) = W2 at *
  clear hgW2
  replace m_0 := m.cell (i := 0) rfl
  replace m_1 := m.cell (i := 1) rfl
  replace m_2 := m.cell (i := 2) rfl
  replace p0 := p0.ext hEW2; replace p0_0 := p0.cell (i := 0) rfl; replace p0_1 := p0.cell (i := 1) rfl; replace p0_2 := p0.cell (i := 2) rfl
  have HM0 := Lib.hid m
  have HEW2 := Lib.hid hEW2
  have hszm : w1.heap.size < W2.heap.size := m.lt
  clear m m_0 m_1 m_2 hEW2
  go_wp2_with fail
  clear p0 p0_0 p0_1 p0_2
  go_loopg [13] n2 (fun k vi wr => ∃ (j : Nat), j ≤ n2 ∧ k = n2 - j ∧ vi = .int .i64 (j : Int) ∧ Hid (∃ vo css, Blk wr w1.heap.size 28 #[.bool b, .slice a5 n c5, vo] ∧ Grp rInts W2.heap.size 30 wr vo j (xss.take j) css) ∧ Hid (Ext w1 wr) ∧ W2.heap.size ≤ wr.heap.size)
  case atStart => exact ⟨0, Nat.zero_le _, by omega, rfl, Lib.hid ⟨_, [], HM0.out, Grp.nil _ _ _ _⟩, HEW2, Nat.le_refl _⟩
  case round =>
    clear HM0 HEW2
    obtain ⟨j, hj, hk, rfl, HGj, HEj, hszj⟩ := hrel
    by_cases hjn : j < n2
    · obtain ⟨vo, css, m, hG⟩ := HGj.out
      obtain ⟨b5, o5, a1, n1, c1, xs, rfl, hb5, hx1, hc5, hX⟩ := (HS.out.ext (Nat.le_refl _) (Ext.trans HE1.out HEj.out)).cellOne2 hjn
      obtain ⟨hil, hxe⟩ := List.getElem?_eq_some_iff.1 hx1
      have HTS : Hid (xss.take (j + 1) = xss.take j ++ [xs]) := Lib.hid (by rw [List.take_succ_eq_append_getElem hil, hxe])
      have hxm := hx.out xs (List.mem_of_getElem? hx1)
      have hn1 : n1 ≤ 1099511627776 := by rw [← hX.len]; exact hxm.1
      have HXX := Lib.hid hxm.2
      have hlt := hG.own.lt
      have HG := Lib.hid hG
      have HX := Lib.hid hX
      clear hX hx1 hil hxe hxm hG
      skip
      replace m_0 := m.cell (i := 0) rfl
      replace m_1 := m.cell (i := 1) rfl
      replace m_2 := m.cell (i := 2) rfl
      replace m_f0 := m.free 0
      replace m_f1 := m.free 1
      replace m_f2 := m.free 2
      replace m_lt := m.lt
      go_wp2_with fail
      have hd : Ext wr wr.drew := (Below.refl _ _).drew
      replace m := m.ext hd; replace m_0 := m.cell (i := 0) rfl; replace m_1 := m.cell (i := 1) rfl; replace m_2 := m.cell (i := 2) rfl; replace m_f0 := m.free 0; replace m_f1 := m.free 1; replace m_f2 := m.free 2; replace m_lt := m.lt
      have h1f := HX.out.ext (Nat.le_refl _) hd
      have hE9 := hd
      have hsz9 := hE9.size
      obtain ⟨i0, hi0, hz0, hz1, hz2⟩ := info_parts info_ints
      have HG9 : Hid (Grp rInts W2.heap.size 30 wr.drew vo j (xss.take j) css) := Lib.hid (HG.out.keep hE9.size (fun b _ h2 => hE9.block b h2))
      clear hc5 hd
      go_region_law (first
        | (go_simp; go_at_call 79; (with_reducible refine (r3CopyAll_any _ a1 n1 c1 xs h1f HXX hn1).mono ?_); rintro e w6 ⟨a10, c10, rfl, h10, hE1⟩; replace m := m.ext hE1; replace m_0 := m.cell (i := 0) rfl; replace m_1 := m.cell (i := 1) rfl; replace m_2 := m.cell (i := 2) rfl; replace m_f0 := m.free 0; replace m_f1 := m.free 1; replace m_f2 := m.free 2; replace m_lt := m.lt; go_wp2_with fail)
        | (have hEA : Ext w6 (w6.alloc (Obj.cells #[.slice a10 n1 c10] 30)) := (Below.refl _ _).alloc (Nat.le_refl _) _
           have hEB := Ext.trans hE1 hEA
           have hG10 := HG9.out.keep hEB.size (fun b _ h2 => hEB.block b h2)
           have hbl := Blk.new w6 30 #[.slice a10 n1 c10]
           have hnews : ∀ ad, some (⟨w6.heap.size, 0, none⟩ : Addr) = some ad → ∀ (j' : Nat) (u : Value), [Value.slice a10 n1 c10][j']? = some u → (w6.alloc (Obj.cells #[.slice a10 n1 c10] 30)).cell? (ad.add j') = some u := (by intro ad e j' u hu; cases e; match j', hu with | 0, hu => (cases hu; exact hbl.cell (i := 0) rfl) | k + 1, hu => simp at hu)
           refine step_append_src rfl (.tmp 18) (.tmp 21) 26 rfl W2.heap.size 30 i0 _ 1 24 under_intss hi0 hz0 hz1 hz2 rfl (by decide) vo j _ rfl hG10.own (some ⟨w6.heap.size, 0, none⟩) 1 1 [.slice a10 n1 c10] rfl (by simp) rfl hnews (by simp [Value.oneCell']) (by unfold maxLen; omega) (by omega) (by have := hEB.size; omega) ?_
           intro v' w7 hown' hgrow hat
           obtain ⟨g', cap', rfl⟩ := ownsRow_succ hown'
           replace m := Blk.grown (m.ext hEA) hgrow (fun e => by have := (hlt _ e.symm).1; omega)
           replace m_0 := m.cell (i := 0) rfl
           replace m_1 := m.cell (i := 1) rfl
           replace m_2 := m.cell (i := 2) rfl
           replace m_f0 := m.free 0
           replace m_f1 := m.free 1
           replace m_f2 := m.free 2
           replace m_lt := m.lt))
      all_goals
        have HNx : Hid (rInts.ok wr.drew.heap.size (w6.alloc (Obj.cells #[.slice a10 n1 c10] 30)) [.slice a10 n1 c10] xs) := Lib.hid ⟨a10, n1, c10, rfl, h10.ext (Nat.le_refl _) hEA⟩
        have HGa := Lib.hid (hG10.add hown' hgrow hat (x := xs) HNx.out (Nat.le_trans hszj hsz9) (fun k e => Nat.lt_of_lt_of_le (hlt k e).2 hsz9))
        have HKa := Lib.hid (HGa.out.keep (w' := w7.setCell ⟨w1.heap.size, 2, none⟩ (.slice (some ⟨g', 0, none⟩) (j + 1) cap')) (by simp [World.setCell]) (fun b h1 _ => Below.heap_setCell _ _ _ b (by simp; omega)))
        have HMz := Lib.hid (m.set 2 (.slice (some ⟨g', 0, none⟩) (j + 1) cap'))
        have hEC := Ext.trans HEj.out (Ext.trans hE9 hEB)
        have hEBs := hEB.size
        have hgs := hgrow.size
        have HEz := Lib.hid ((hEC.grown hgrow hEC.size (fun k e => by have := (hlt k e).1; omega)).setCell (p := ⟨w1.heap.size, 2, none⟩) (Nat.le_refl _) (.slice (some ⟨g', 0, none⟩) (j + 1) cap'))
        have hszz : W2.heap.size ≤ (w7.setCell ⟨w1.heap.size, 2, none⟩ (.slice (some ⟨g', 0, none⟩) (j + 1) cap')).heap.size := by simp only [World.setCell, Array.size_modify]; omega
        clear hG10 h1f h10 hEA hEB hE1 hE9 hEC hown' hgrow hat hnews hbl
        go_wp2_with fail
        go_roundg (n2 - (j + 1))
        case measure => omega
        case rel => exact ⟨j + 1, by omega, rfl, by go_num, Lib.hid ⟨_, css ++ [[.slice a10 n1 c10]], HMz.out, by rw [HTS.out]; exact HKa.out⟩, HEz, hszz⟩
    · obtain rfl : j = n2 := by omega
      obtain ⟨vo, css, m, hG⟩ := HGj.out
      rw [List.take_of_length_le (by rw [hlen.out]; exact Nat.le_refl _)] at hG
      obtain ⟨aa, cc, rfl, hsl⟩ := hG.sl
      have r0 := HR0.out.ext HEj.out
      skip
      skip
      replace m_0 := m.cell (i := 0) rfl
      replace m_1 := m.cell (i := 1) rfl
      replace m_2 := m.cell (i := 2) rfl
      replace r0_0 := r0.cell (i := 0) rfl
      replace r0_1 := r0.cell (i := 1) rfl
      replace r0_2 := r0.cell (i := 2) rfl
      replace r0_f0 := r0.free 0
      replace r0_f1 := r0.free 1
      replace r0_f2 := r0.free 2
      replace r0_lt := r0.lt
      have h5 := H5.out.ext (Nat.le_refl _) HEj.out
      have HF : Hid (RCopyM w b n j l xss (.returned (.agg #[.bool b, .slice a5 n c5, .slice aa j cc])) (((wr.setCell ⟨w.heap.size + 1, 0, none⟩ (.bool b)).setCell ⟨w.heap.size + 1, 1, none⟩ (.slice a5 n c5)).setCell ⟨w.heap.size + 1, 2, none⟩ (.slice aa j cc))) := Lib.hid ⟨a5, c5, aa, cc, rfl, (h5.mono (Nat.le_refl _) (kept_set3 _ _ _ _ hW)).mono (by omega) (Kept.refl _ _), (hsl.mono (Nat.le_refl _) (kept_set3 _ _ _ _ (by omega))).mono (by omega) (Kept.refl _ _), ext_set3 (Ext.trans HE1.out HEj.out) _ _ _ (by omega)⟩
      clear hG hsl h5 HGj
      have r02 : Blk ((((wr).setCell ⟨w.heap.size + 1, 0, none⟩ (.bool b)).setCell ⟨w.heap.size + 1, 1, none⟩ (.slice a5 n c5)).setCell ⟨w.heap.size + 1, 2, none⟩ (.slice aa j cc)) _ _ #[.bool b, .slice a5 n c5, .slice aa j cc] := (((r0).set 0 (.bool b)).set 1 (.slice a5 n c5)).set 2 (.slice aa j cc)
      have hr00 := r02.cell (i := 0) rfl
      have hr01 := r02.cell (i := 1) rfl
      have hr02 := r02.cell (i := 2) rfl
      go_wp2_with fail
      exact bodyPost_ret (v := .agg #[.bool b, .slice a5 n c5, .slice aa j cc]) (by simp [results, Tryz.results22, go_sem, hr00, hr01, hr02]) rfl HF.out
end Go.Proofs.YtbhenelehhiakaaGreat
