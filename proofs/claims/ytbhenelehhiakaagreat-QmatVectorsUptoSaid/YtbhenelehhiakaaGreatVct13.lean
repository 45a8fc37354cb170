/-
  The references: Apply.
-/
import Derived.Test.YtbhenelehhiakaaGreatVct12
set_option linter.unusedVariables false
set_option linter.unusedSimpArgs false
namespace Go.Proofs.YtbhenelehhiakaaGreat
open Go.RowKit
theorem ownsRow_pop {w : World} {base e s g k cap : Nat} {xs cs : List Value} (h : w.ownsRow base e s (.slice (some ⟨g, 0, none⟩) (k + 1) cap) (k + 1) (xs ++ cs)) (hs : cs.length = s) : w.ownsRow base e s (.slice (some ⟨g, 0, none⟩) k cap) k xs := by
 obtain ⟨h1, h2⟩ := h
 rcases h2 with ⟨h2, _⟩ | ⟨g', cap', cur, h2, h3, h4, h5, h6, h7, h8⟩
 ·cases h2
 ·cases h2
  have hx : xs.length = k * s := by rw [List.length_append, hs, Nat.succ_mul] at h1; omega
  refine ⟨hx, .inr ⟨g, cap, cur, rfl, h3, h4, by omega, h6, h7, ?_⟩⟩
  have := congrArg (List.take (k * s)) h8
  rw [List.take_take, Nat.min_eq_left (by rw [Nat.succ_mul]; omega), List.take_append_of_le_length (by omega), show xs.take (k * s) = xs from List.take_of_length_le (by omega)] at this
  exact this
theorem Grp.pop {α : Type} {r : Rd α} {B e g k cap : Nat} {w : World} {xs : List α} {x : α} {css : List (List Value)} (h : Grp r B e w (.slice (some ⟨g, 0, none⟩) (k + 1) cap) (k + 1) (xs ++ [x]) css) : ∃ css2, Grp r B e w (.slice (some ⟨g, 0, none⟩) k cap) k xs css2 := by
 have hl := h.len
 have hxl : xs.length = k := by have := h.xlen; rw [List.length_append] at this; simpa using this
 rcases List.eq_nil_or_concat css with rfl | ⟨cs2, c, rfl⟩
 ·simp at hl
 rw [List.concat_eq_append] at h hl
 have hl2 : cs2.length = k := by rw [List.length_append] at hl; simpa using hl
 have hc : c.length = r.size := by
  obtain ⟨Wk, Bk, _, p2, _⟩ := h.parts k (by rw [List.length_append]; simp; omega) (by rw [List.length_append]; simp; omega)
  rw [List.getElem_append_right (by omega)] at p2
  have := r.len p2
  simpa using this
 refine ⟨cs2, hl2, hxl, ownsRow_pop (cs := c) (by simpa using h.own) hc, fun j hj hx => ?_⟩
 obtain ⟨Wk, Bk, p1, p2, p3, p4⟩ := h.parts j (by rw [List.length_append]; omega) (by rw [List.length_append]; omega)
 rw [List.getElem_append_left hj, List.getElem_append_left hx] at p2
 exact ⟨Wk, Bk, p1, p2, p3, fun b h1 h2 => ⟨(p4 b h1 h2).1, by have := (p4 b h1 h2).2; simpa [Value.ownBlock] using this⟩⟩
theorem r5Of_zero (w : World) (q : Rat) (hq : Hid (q = 0)) : Calls Tryz.prog 101 #[.int .i64 0] w (RRat w q) := by
 rw [hq.out]
 have := r5Of_any 0 w (by decide) (by decide)
 rwa [Rat.intCast_zero] at this
set_option maxRecDepth 100000 in
set_option maxHeartbeats 16000000 in
theorem r11Apply_any (K : Nat) (hK : 8 * K + 16777216 ≤ 549755813888) (w : World) (b : Bool) (a a2 : Option Addr) (n c n2 c2 : Nat) (d : Int) (zss : List (List Int)) (h : MatS K w b a n c a2 n2 c2 d zss) (b' : Bool) (a' a2' : Option Addr) (n' c' n2' c2' : Nat) (d' : Int) (ys : List Int) (h' : VecS K w b' a' n' c' a2' n2' c2' d' ys) (hd0 : d ≠ 0) (hd1 : d' ≠ 0) (hrow : Hid (∀ zs ∈ zss, zs.length = n2')) (hn2 : n2 ≤ 1048576) (hn2' : n2' ≤ 1048576) (qs : List Rat) (hqs : Hid (applyQ (fracs d zss) (frV d' ys) n2 n2' = qs)) :
  Calls Tryz.prog 57 #[.agg #[.bool b, .slice a n c, .slice a2 n2 c2], .agg #[.bool b', .slice a' n' c', .slice a2' n2' c2']] w (RVRefN w qs) := by
 obtain ⟨cur, hcur, hmk⟩ := make_any under_rats info_rat n2 n2 (Nat.le_refl _) (by omega) (by omega)
 have hmk : ∀ w, (Instr.makeSlice 68 (.int .i64 (n2 : Int)) (.int .i64 (n2 : Int))).run Tryz.prog w = .ok (.slice (some ⟨w.heap.size, 0, none⟩) n2 n2) (w.alloc (.cells cur 75)) := hmk
 have HCur := Lib.hid hcur
 clear hcur
 obtain ⟨X, hX⟩ : ∃ X, fracs d zss = X := ⟨_, rfl⟩
 obtain ⟨Y, hY⟩ : ∃ X, frV d' ys = X := ⟨_, rfl⟩
 have HX := Lib.hid hX
 have HY := Lib.hid hY
 have HXL : Hid (∀ qs ∈ X, qs.length = n2') := Lib.hid (fun qs hq => by rw [← hX] at hq; obtain ⟨zs, hz, rfl⟩ := List.mem_map.1 hq; rw [List.length_map]; exact hrow.out zs hz)
 have hXn : X.length = n2 := by rw [← hX, length_fracs]; obtain ⟨_, _, _, _, h9⟩ := h; exact h9.len
 have HXN := Lib.hid hXn
 have hA := h
 have hB := h'
 obtain ⟨l0, h1, h2, h3, h4⟩ := h
 obtain ⟨l0', h1', h2', h3', h4'⟩ := h'
 have hdK : nl d.natAbs ≤ K := Nat.le_trans (nl_of h1 (Lib.hid h2)) h3
 have hdK' : nl d'.natAbs ≤ K := Nat.le_trans (nl_of h1' (Lib.hid h2')) h3'
 have hzK : ∀ i k, nl (entry zss i k).natAbs ≤ K := entry_nl h4
 have hyK : ∀ k : Nat, nl ((ys[k]?).getD 0).natAbs ≤ K := getD_nl h4'
 have hddK : nl (d * d').natAbs ≤ K + K := by rw [Int.natAbs_mul]; have := nl_mul d.natAbs d'.natAbs; omega
 have hdd : d * d' ≠ 0 := Int.mul_ne_zero hd0 hd1
 have hpe : ∀ i j : Nat, entQ X i j * (Y[j]?).getD 0 = ratv (entry zss i j * (ys[j]?).getD 0) (d * d') := fun i j => by rw [← hX, ← hY, entQ_fracs, frV_get, ratv_mul]
 have hpn : ∀ i j : Nat, nl (entry zss i j * (ys[j]?).getD 0).natAbs ≤ K + K := fun i j => by rw [Int.natAbs_mul]; have := nl_mul (entry zss i j).natAbs ((ys[j]?).getD 0).natAbs; have := hzK i j; have := hyK j; omega
 have HPB : Hid (∀ i j : Nat, nl (entQ X i j * (Y[j]?).getD 0).num.natAbs ≤ K + K ∧ nl (entQ X i j * (Y[j]?).getD 0).den ≤ K + K) := Lib.hid (fun i j => by rw [hpe]; exact nl_ratv hdd (hpn i j) hddK)
 obtain ⟨S, hS⟩ : ∃ S : Nat → Nat → Rat, S = fun i j => sumN j fun k => entQ X i k * (Y[k]?).getD 0 := ⟨_, rfl⟩
 obtain ⟨pr, hpr⟩ : ∃ pr : Nat → List Rat, pr = fun i => (List.range i).map fun i => S i n2' := ⟨_, rfl⟩
 have HQ : Hid (pr n2 = qs) := Lib.hid (by rw [← hqs.out, hX, hY, hpr, hS]; rfl)
 have HPL : Hid (∀ i, (pr i).length = i) := Lib.hid (fun i => by rw [hpr]; simp)
 have HP00 : Hid (pr 0 = []) := Lib.hid (by rw [hpr]; rfl)
 have HPS : Hid (∀ i, pr i ++ [S i n2'] = pr (i + 1)) := Lib.hid (fun i => by rw [hpr]; show _ = (List.range (i + 1)).map _; rw [List.range_succ, List.map_append]; rfl)
 have hSe : ∀ i j : Nat, S i j = ratv (sumZ j fun k => entry zss i k * (ys[k]?).getD 0) (d * d') := fun i j => by rw [hS, ratv_sum hdd]; exact sumN_congr fun k _ => hpe i k
 have HSK : Hid (∀ i j, j ≤ n2' → nl (S i j).num.natAbs ≤ 2 * K + 1048576 ∧ nl (S i j).den ≤ 2 * K + 1048576) := Lib.hid (fun i j hj => by rw [hSe]; have := nl_sumZ j (fun k => entry zss i k * (ys[k]?).getD 0) (fun k => hpn i k); exact nl_ratv hdd (by omega) (by omega))
 have HCD : Hid (nl (comDen qs) ≤ 2 * K) := Lib.hid (by rw [← hqs.out, ← apply_eq zss ys d d' hd0 hd1]; exact Nat.le_trans (comDen_frV _ hdd _ _ hddK) (by omega))
 have HS0 : Hid (∀ i, S i 0 = 0) := Lib.hid (fun i => by rw [hS]; rfl)
 have HS1 : Hid (∀ i j : Nat, S i j + entQ X i j * (Y[j]?).getD 0 = S i (j + 1)) := Lib.hid (fun i j => by rw [hS]; rfl)
 clear hX hY hpr hS hSe h1 h2 h3 h4 h1' h2' h3' h4' hzK hyK hddK hpe hpn hdd hXn
 go_enter Tryz.func57, Tryz.ntmps57
 go_upto_region 1 with (fail)
 have p0 := Blk.new w 28 #[.bool b, .slice a n c, .slice a2 n2 c2]
 have p1 := Blk.new (w.alloc (Obj.cells #[.bool b, .slice a n c, .slice a2 n2 c2] 28)) 32 #[.bool b', .slice a' n' c', .slice a2' n2' c2']
 replace p0 := p0.ext ((Below.refl _ _).alloc (Nat.le_refl _) (Obj.cells #[.bool b', .slice a' n' c', .slice a2' n2' c2'] 32))
 have r0 := Blk.new ((w.alloc (Obj.cells #[.bool b, .slice a n c, .slice a2 n2 c2] 28)).alloc (Obj.cells #[.bool b', .slice a' n' c', .slice a2' n2' c2'] 32)) 32 #[.bool false, .slice none 0 0, .slice none 0 0]
 replace p0 := p0.ext ((Below.refl _ _).alloc (Nat.le_refl _) (Obj.cells #[.bool false, .slice none 0 0, .slice none 0 0] 32))
 replace p1 := p1.ext ((Below.refl _ _).alloc (Nat.le_refl _) (Obj.cells #[.bool false, .slice none 0 0, .slice none 0 0] 32))
 have hEW : Ext w (((w.alloc (Obj.cells #[.bool b, .slice a n c, .slice a2 n2 c2] 28)).alloc (Obj.cells #[.bool b', .slice a' n' c', .slice a2' n2' c2'] 32)).alloc (Obj.cells #[.bool false, .slice none 0 0, .slice none 0 0] 32)) := ((((Below.refl _ w).alloc (by simp) _).alloc (by simp) _).alloc (by simp; omega) _)
 generalize hgW : ((w.alloc (Obj.cells #[.bool b, .slice a n c, .slice a2 n2 c2] 28)).alloc (Obj.cells #[.bool b', .slice a' n' c', .slice a2' n2' c2'] 32)).alloc (Obj.cells #[.bool false, .slice none 0 0, .slice none 0 0] 32) = W at *
 clear hgW
 simp only [World.size_alloc] at p1 r0
 have p0_ne_p1 : ¬ w.heap.size = w.heap.size + 1 := by omega
 have p0_ne_r0 : ¬ w.heap.size = w.heap.size + 1 + 1 := by omega
 have p1_ne_p0 : ¬ w.heap.size + 1 = w.heap.size := by omega
 have p1_ne_r0 : ¬ w.heap.size + 1 = w.heap.size + 1 + 1 := by omega
 have r0_ne_p0 : ¬ w.heap.size + 1 + 1 = w.heap.size := by omega
 have r0_ne_p1 : ¬ w.heap.size + 1 + 1 = w.heap.size + 1 := by omega
 replace p0_0 := p0.cell (i := 0) rfl
 replace p0_1 := p0.cell (i := 1) rfl
 replace p0_2 := p0.cell (i := 2) rfl
 replace p1_0 := p1.cell (i := 0) rfl
 replace p1_1 := p1.cell (i := 1) rfl
 replace p1_2 := p1.cell (i := 2) rfl
 replace r0_0 := r0.cell (i := 0) rfl
 replace r0_1 := r0.cell (i := 1) rfl
 replace r0_2 := r0.cell (i := 2) rfl
 have hW : w.heap.size + 1 + 1 < W.heap.size := r0.lt
 have HR0 := Lib.hid r0
 have HEW := Lib.hid hEW
 go_cut [5, 6] (fun s5 s6 wx => ∃ (ax : Option Addr) (cx : Nat) (ay : Option Addr), s5 = .slice ax n2 cx ∧ s6 = .slice ay n2' n2' ∧ Hid (Sl (rRatK K).slice 0 wx ax n2 cx X) ∧ Hid (Sl (rRatK K) 0 wx ay n2' n2' Y) ∧ Hid (Ext W wx) ∧ cx ≤ 9223372036854775807 ∧ n2 ≤ cx)
 case first =>
  have hEd : Ext W W.drew := (Below.refl _ _).drew
  replace p0 := p0.ext hEd; replace p0_0 := p0.cell (i := 0) rfl; replace p0_1 := p0.cell (i := 1) rfl; replace p0_2 := p0.cell (i := 2) rfl; replace p1 := p1.ext hEd; replace p1_0 := p1.cell (i := 0) rfl; replace p1_1 := p1.cell (i := 1) rfl; replace p1_2 := p1.cell (i := 2) rfl
  have hE0 := hEd
  go_region_held3 (fun w' => w'.cell? ⟨w.heap.size, 0, none⟩ = some (.bool b) ∧ w'.cell? ⟨w.heap.size, 1, none⟩ = some (.slice a n c) ∧ w'.cell? ⟨w.heap.size, 2, none⟩ = some (.slice a2 n2 c2) ∧ w'.cell? ⟨w.heap.size + 1, 0, none⟩ = some (.bool b') ∧ w'.cell? ⟨w.heap.size + 1, 1, none⟩ = some (.slice a' n' c') ∧ w'.cell? ⟨w.heap.size + 1, 2, none⟩ = some (.slice a2' n2' c2')) (first | exact ⟨p0_0, p0_1, p0_2, p1_0, p1_1, p1_2⟩ | go_keep)
   (first
   | (go_at_call 34; (with_reducible refine (r11Rows_tab K K (Nat.le_refl _) (by omega) _ b a a2 n c n2 c2 d zss (hA.ext (Ext.trans HEW.out hE0)) hd0 n2' hrow (by omega) (by omega) X HX).mono ?_); rintro e w1 ⟨ax, cx, Fx, rfl, hTx, hFx, hE1⟩; have hxr := Sl.mono hTx.read (Nat.zero_le _) (Kept.refl _ _); rw [tabQ_ent2 X n2 n2' HXN.out HXL.out] at hxr; (try replace hyr := hyr.ext (Nat.le_refl _) hE1); replace p0 := p0.ext hE1; replace p0_0 := p0.cell (i := 0) rfl; replace p0_1 := p0.cell (i := 1) rfl; replace p0_2 := p0.cell (i := 2) rfl; replace p1 := p1.ext hE1; replace p1_0 := p1.cell (i := 0) rfl; replace p1_1 := p1.cell (i := 1) rfl; replace p1_2 := p1.cell (i := 2) rfl; replace hE0 := Ext.trans hE0 hE1)
   | (go_at_call 73; (with_reducible refine (r11Entries_n K (by omega) _ b' a' a2' n' c' n2' c2' d' ys (hB.ext (Ext.trans HEW.out hE0)) hd1 (by omega) Y HY).mono ?_); rintro e w1 ⟨gy, rfl, hyr, hh1, hh2, hE1⟩; replace hyr := Sl.mono hyr (Nat.zero_le _) (Kept.refl _ _); (try replace hxr := hxr.ext (Nat.le_refl _) hE1); replace p0 := p0.ext hE1; replace p0_0 := p0.cell (i := 0) rfl; replace p0_1 := p0.cell (i := 1) rfl; replace p0_2 := p0.cell (i := 2) rfl; replace p1 := p1.ext hE1; replace p1_0 := p1.cell (i := 0) rfl; replace p1_1 := p1.cell (i := 1) rfl; replace p1_2 := p1.cell (i := 2) rfl; replace hE0 := Ext.trans hE0 hE1))
  all_goals
   have HXR := Lib.hid hxr
   have HYR := Lib.hid hyr
   have HE0 := Lib.hid hE0
   have hcap := hxr.cap
   have hmost := hxr.most
   clear hxr hyr hE0 hFx hTx p0 p1 r0 p0_0 p0_1 p0_2 p1_0 p1_1 p1_2 r0_0 r0_1 r0_2 hh1 hh2
   go_wp2_with fail
   go_meet
   exact ⟨ax, cx, _, rfl, rfl, HXR, HYR, HE0, hmost, hcap⟩
 case rest =>
  clear p0 p1 r0 p0_0 p0_1 p0_2 p1_0 p1_1 p1_2 r0_0 r0_1 r0_2 hEW
  obtain ⟨aX, cX, aY, rfl, rfl, HXR, HYR, HE, hmost, hcap⟩ := hcut
  obtain ⟨wz, rfl⟩ : ∃ x : World, x = wc := ⟨_, rfl⟩
  have hEA : Ext wz (wz.alloc (Obj.cells cur 75)) := (Below.refl _ _).alloc (Nat.le_refl _) _
  have HG0 : Hid (Grp (rRatK (2 * K + 1048576)) wz.heap.size 75 (wz.alloc (Obj.cells cur 75)) (.slice (some ⟨wz.heap.size, 0, none⟩) 0 n2) 0 [] []) := Lib.hid ⟨rfl, rfl, World.ownsRow_made wz cur n2 (Nat.le_refl _) (by unfold maxLen; omega) HCur.out, fun k hk => absurd hk (by simp)⟩
  have HAX := Lib.hid (away_old (F := [wz.heap.size]) HXR.out hEA (fun g hg => by rw [List.mem_singleton.1 hg]; exact Nat.le_refl _))
  have HAY := Lib.hid (awayR_old (g := wz.heap.size) HYR.out hEA (Nat.le_refl _))
  have hWz := HE.out.size
  replace HE := Lib.hid (Ext.trans HE.out hEA)
  clear HXR HYR hEA
  go_wp2_with fail
  go_loopg [19] n2 (fun q9 vi wr => ∃ i : Nat, i ≤ n2 ∧ q9 = n2 - i ∧ vi = .int .i64 (i : Int) ∧ Hid (∃ css, Grp (rRatK (2 * K + 1048576)) wz.heap.size 75 wr (.slice (some ⟨wz.heap.size, 0, none⟩) i n2) i (pr i) css) ∧ Hid (Away [wz.heap.size] wr K 0 aX n2 cX X) ∧ Hid (AwayR wz.heap.size wr K 0 aY n2' n2' Y) ∧ Hid (Ext W wr))
  case atStart => exact ⟨0, Nat.zero_le _, by omega, rfl, Lib.hid ⟨[], by rw [HP00.out]; exact HG0.out⟩, HAX, HAY, HE⟩
  case round =>
   clear HG0 HAX HAY HE
   obtain ⟨i, hi, hq9, rfl, HGi, HAX, HAY, HE⟩ := hrel
   by_cases hin : i < n2
   ·have hp1 : (i : Int) < (n2 : Int) := by omega
    obtain ⟨css, hGi⟩ := HGi.out
    have hgl := hGi.cell.1
    obtain ⟨q0, hq0⟩ : ∃ q0, S i 0 = q0 := ⟨_, rfl⟩
    have HQ0 := Lib.hid hq0
    have HQZ : Hid (q0 = 0) := Lib.hid (by rw [← hq0]; exact HS0.out i)
    have hQK : nl q0.num.natAbs ≤ 2 * K + 1048576 ∧ nl q0.den ≤ 2 * K + 1048576 := by rw [← hq0]; exact HSK.out i 0 (Nat.zero_le _)
    clear hq0 hGi
    go_wp2_with fail
    refine (r5Of_zero wr q0 HQZ).mono ?_
    rintro e w5 ⟨a8, n8, c8, a9, n9, c9, rfl, h8, h9, hE5⟩
    obtain ⟨bb, hbb⟩ : ∃ bb, decide (q0.num < 0) = bb := ⟨_, rfl⟩
    rw [hbb]
    have hG5 := HGi.out.choose_spec.keep hE5.size (fun b _ h2 => hE5.block b h2)
    generalize HGi.out.choose = css at *
    obtain ⟨hg1, hg2, hg3⟩ := hG5.cell
    have z0 := hg3 (i * 4) (show i * 4 < n2 * 4 by omega)
    have z1 := hg3 (i * 4 + 1) (show i * 4 + 1 < n2 * 4 by omega)
    have z2 := hg3 (i * 4 + 2) (show i * 4 + 2 < n2 * 4 by omega)
    have z3 := hg3 (i * 4 + 3) (show i * 4 + 3 < n2 * 4 by omega)
    obtain ⟨⟨u0, s0⟩, f0⟩ := z0
    obtain ⟨⟨u1, s1⟩, f1⟩ := z1
    obtain ⟨⟨u2, s2⟩, f2⟩ := z2
    obtain ⟨⟨u3, s3⟩, f3⟩ := z3
    have HG6 := Lib.hid (hG5.put hin (x := q0) (cs := [.bool bb, .slice a8 n8 c8, .bool false, .slice a9 n9 c9]) (Bx := wr.heap.size) (ratK_of (q := q0) (K := 2 * K + 1048576) h8 h9 hQK.1 hQK.2 bb hbb) (by omega) hgl)
    have HAX2 := Lib.hid ((HAX.out.ext hE5).set (List.mem_singleton.2 rfl) [.bool bb, .slice a8 n8 c8, .bool false, .slice a9 n9 c9] (i * 4))
    have HAY2 := Lib.hid ((HAY.out.ext hE5).set [.bool bb, .slice a8 n8 c8, .bool false, .slice a9 n9 c9] (i * 4))
    have HE2 := Lib.hid (ext_set4' (Ext.trans HE.out hE5) (i * 4) (.bool bb) (.slice a8 n8 c8) (.bool false) (.slice a9 n9 c9) (b := wz.heap.size) hWz)
    clear hG5 hg3 h8 h9 hE5 hbb HAX HAY HE HGi hQK HQZ
    go_wp2_with fail
    go_loopg [28] n2' (fun q9 vi wr => ∃ j : Nat, j ≤ n2' ∧ q9 = n2' - j ∧ vi = .int .i64 (j : Int) ∧ Hid (∃ css, Grp (rRatK (2 * K + 1048576)) wz.heap.size 75 wr (.slice (some ⟨wz.heap.size, 0, none⟩) (i + 1) n2) (i + 1) (pr i ++ [S i j]) css) ∧ Hid (Away [wz.heap.size] wr K 0 aX n2 cX X) ∧ Hid (AwayR wz.heap.size wr K 0 aY n2' n2' Y) ∧ Hid (Ext W wr))
    case atStart => exact ⟨0, Nat.zero_le _, by omega, rfl, Lib.hid ⟨_, by rw [HQ0.out]; exact HG6.out⟩, HAX2, HAY2, HE2⟩
    case round =>
     clear HG6 HAX2 HAY2 HE2 s0 s1 s2 s3 f0 f1 f2 f3
     obtain ⟨j, hj, hq9, rfl, HGi, HAX, HAY, HE⟩ := hrel
     by_cases hjn : j < n2'
     ·obtain ⟨css, hGi⟩ := HGi.out
      have hgl := hGi.cell.1
      obtain ⟨csp, hGp⟩ := hGi.pop
      have HGP := Lib.hid hGp
      obtain ⟨ar, cr, hv, hsr⟩ := hGi.sl
      cases hv
      obtain ⟨s1, a1, n1, c1, s2, a3, n3, c3, ⟨u0, u1, u2, u3⟩, ⟨f0, f1, f2, f3⟩, hR1⟩ := Sl.rowAt hsr (show i < i + 1 by omega)
      have hgt : ((pr i ++ [S i j])[i]?).getD 0 = S i j := by rw [List.getElem?_append_right (by rw [HPL.out]; omega), HPL.out, Nat.sub_self]; rfl
      rw [hgt] at hR1
      clear hgt hsr hGp hGi
      obtain ⟨b7, o7, b8, o8, c8, s4, a4, n4, c4, s5, a5, n5, c5, rfl, hb7, hne, hb8, hc7, hc8, v0, v1, v2, v3, hR2⟩ := HAX.out.ent HXL.out hin hjn
      obtain ⟨b9, o9, s6, a6, n6, c6, s7, a7, n7, c7, rfl, hb9, hne2, y0, y1, y2, y3, hR3⟩ := AwayR.ent HAY.out hjn
      obtain ⟨nb7, nb8⟩ := hne _ (List.mem_singleton.2 rfl)
      have nb7' : ¬ wz.heap.size = b7 := fun e => nb7 e.symm
      have nb8' : ¬ wz.heap.size = b8 := fun e => nb8 e.symm
      have nb9' : ¬ wz.heap.size = b9 := fun e => hne2 e.symm
      obtain ⟨t, ht⟩ : ∃ t, S i (j + 1) = t := ⟨_, rfl⟩
      obtain ⟨x, hx⟩ : ∃ x, entQ X i j = x := ⟨_, rfl⟩
      obtain ⟨y, hy⟩ : ∃ y, (Y[j]?).getD 0 = y := ⟨_, rfl⟩
      obtain ⟨p, hp⟩ : ∃ p, x * y = p := ⟨_, rfl⟩
      rw [hx] at hR2
      rw [hy] at hR3
      have HPE := Lib.hid hp
      have HTG : Hid (S i j + p = t) := Lib.hid (by rw [← ht, ← hp, ← hx, ← hy]; exact HS1.out i j)
      have HTK : Hid (nl t.num.natAbs ≤ 2 * K + 1048576 ∧ nl t.den ≤ 2 * K + 1048576) := Lib.hid (by rw [← ht]; exact HSK.out i (j + 1) (by omega))
      have HPK : Hid (nl p.num.natAbs ≤ K + K ∧ nl p.den ≤ K + K) := Lib.hid (by rw [← hp, ← hx, ← hy]; exact HPB.out i j)
      have HTE := Lib.hid ht
      have hp3 : (j : Int) < (n2' : Int) := by omega
      clear ht hp hx hy hne
      go_upto_region 10 with (fail)
      have hEd : Ext wr wr.drew := (Below.refl _ _).drew
      replace f0 := frozenE hEd u0 f0
      replace f1 := frozenE hEd u1 f1
      replace f2 := frozenE hEd u2 f2
      replace f3 := frozenE hEd u3 f3
      replace hc7 := cellE hEd hc7
      replace v0 := cellE hEd v0
      replace v1 := cellE hEd v1
      replace v2 := cellE hEd v2
      replace v3 := cellE hEd v3
      replace y0 := cellE hEd y0
      replace y1 := cellE hEd y1
      replace y2 := cellE hEd y2
      replace y3 := cellE hEd y3
      replace u0 := cellE hEd u0
      replace u1 := cellE hEd u1
      replace u2 := cellE hEd u2
      replace u3 := cellE hEd u3
      replace hR1 := hR1.ext hEd
      replace hR2 := hR2.ext hEd
      replace hR3 := hR3.ext hEd
      have hE0 := hEd
      have hsz : wr.heap.size ≤ wr.drew.heap.size := Nat.le_refl _
      refine wp_region_noPanic ?_
      refine wp_region_held_drew (S := (fun w' => w'.cell? ⟨b7, o7 + i, none⟩ = some (.slice (some ⟨b8, o8, none⟩) n2' c8) ∧ w'.cell? ⟨b8, o8 + j * 4, none⟩ = some (.bool s4) ∧ w'.cell? ⟨b8, o8 + j * 4 + 1, none⟩ = some (.slice a4 n4 c4) ∧ w'.cell? ⟨b8, o8 + j * 4 + 2, none⟩ = some (.bool s5) ∧ w'.cell? ⟨b8, o8 + j * 4 + 3, none⟩ = some (.slice a5 n5 c5) ∧ w'.cell? ⟨b9, o9 + j * 4, none⟩ = some (.bool s6) ∧ w'.cell? ⟨b9, o9 + j * 4 + 1, none⟩ = some (.slice a6 n6 c6) ∧ w'.cell? ⟨b9, o9 + j * 4 + 2, none⟩ = some (.bool s7) ∧ w'.cell? ⟨b9, o9 + j * 4 + 3, none⟩ = some (.slice a7 n7 c7))) (by kernel_rfl) ⟨hc7, v0, v1, v2, v3, y0, y1, y2, y3⟩ (fun hHeld => ?_)
      refine takeD 0 31 (v := ?_) rfl rfl (by kernel_rfl) (by kernel_rfl) (by kernel_rfl) (fun _ _ _ h => h) (Or.inl ⟨by kernel_rfl, ?hy⟩) hHeld ?_
      case hy => (intro w hSw; (try dsimp only at hSw); go_simp; try with_reducible rfl)
      try simp only [List.setIfInBounds_toArray, List.set_cons_zero, List.set_cons_succ]
      refine takeD 1 32 (v := ?_) rfl rfl (by kernel_rfl) (by kernel_rfl) (by kernel_rfl) (fun _ _ _ h => h) (Or.inl ⟨by kernel_rfl, ?hy⟩) hHeld ?_
      case hy => (intro w hSw; (try dsimp only at hSw); go_simp; try with_reducible rfl)
      try simp only [List.setIfInBounds_toArray, List.set_cons_zero, List.set_cons_succ]
      refine takeD 2 33 (v := ?_) rfl rfl (by kernel_rfl) (by kernel_rfl) (by kernel_rfl) (fun _ _ _ h => h) (Or.inl ⟨by kernel_rfl, ?hy⟩) hHeld ?_
      case hy => (intro w hSw; (try dsimp only at hSw); go_simp; try with_reducible rfl)
      try simp only [List.setIfInBounds_toArray, List.set_cons_zero, List.set_cons_succ]
      refine takeD 3 34 (v := ?_) rfl rfl (by kernel_rfl) (by kernel_rfl) (by kernel_rfl) (fun _ _ _ h => h) (Or.inl ⟨by kernel_rfl, ?hy⟩) hHeld ?_
      case hy => (intro w hSw; (try dsimp only at hSw); go_simp; try with_reducible rfl)
      try simp only [List.setIfInBounds_toArray, List.set_cons_zero, List.set_cons_succ]
      refine takeD 4 35 (v := ?_) rfl rfl (by kernel_rfl) (by kernel_rfl) (by kernel_rfl) (fun _ _ _ h => h) (Or.inl ⟨by kernel_rfl, ?hy⟩) hHeld ?_
      case hy => (intro w hSw; (try dsimp only at hSw); go_simp; try with_reducible rfl)
      try simp only [List.setIfInBounds_toArray, List.set_cons_zero, List.set_cons_succ]
      refine takeD 6 37 (v := ?_) rfl rfl (by kernel_rfl) (by kernel_rfl) (by kernel_rfl) (fun _ _ _ h => h) (Or.inl ⟨by kernel_rfl, ?hy⟩) hHeld ?_
      case hy => (intro w hSw; (try dsimp only at hSw); go_simp; try with_reducible rfl)
      try simp only [List.setIfInBounds_toArray, List.set_cons_zero, List.set_cons_succ]
      refine takeD 7 38 (v := ?_) rfl rfl (by kernel_rfl) (by kernel_rfl) (by kernel_rfl) (fun _ _ _ h => h) (Or.inl ⟨by kernel_rfl, ?hy⟩) hHeld ?_
      case hy => (intro w hSw; (try dsimp only at hSw); go_simp; try with_reducible rfl)
      try simp only [List.setIfInBounds_toArray, List.set_cons_zero, List.set_cons_succ]
      refine takeD 8 39 (v := ?_) rfl rfl (by kernel_rfl) (by kernel_rfl) (by kernel_rfl) (fun _ _ _ h => h) (Or.inl ⟨by kernel_rfl, ?hy⟩) hHeld ?_
      case hy => (intro w hSw; (try dsimp only at hSw); go_simp; try with_reducible rfl)
      try simp only [List.setIfInBounds_toArray, List.set_cons_zero, List.set_cons_succ]
      refine takeD 9 40 (v := ?_) rfl rfl (by kernel_rfl) (by kernel_rfl) (by kernel_rfl) (fun _ _ _ h => h) (Or.inl ⟨by kernel_rfl, ?hy⟩) hHeld ?_
      case hy => (intro w hSw; (try dsimp only at hSw); go_simp; try with_reducible rfl)
      try simp only [List.setIfInBounds_toArray, List.set_cons_zero, List.set_cons_succ]
      refine takeD 10 41 (v := ?_) rfl rfl (by kernel_rfl) (by kernel_rfl) (by kernel_rfl) (fun _ _ _ h => h) (Or.inl ⟨by kernel_rfl, ?hy⟩) hHeld ?_
      case hy => (intro w hSw; (try dsimp only at hSw); go_simp; try with_reducible rfl)
      try simp only [List.setIfInBounds_toArray, List.set_cons_zero, List.set_cons_succ]
      refine takeD 11 42 (v := ?_) rfl rfl (by kernel_rfl) (by kernel_rfl) (by kernel_rfl) (fun _ _ _ h => h) (Or.inl ⟨by kernel_rfl, ?hy⟩) hHeld ?_
      case hy => (intro w hSw; (try dsimp only at hSw); go_simp; try with_reducible rfl)
      try simp only [List.setIfInBounds_toArray, List.set_cons_zero, List.set_cons_succ]
      refine takeD 12 43 (v := ?_) rfl rfl (by kernel_rfl) (by kernel_rfl) (by kernel_rfl) (fun _ _ _ h => h) (Or.inl ⟨by kernel_rfl, ?hy⟩) hHeld ?_
      case hy => (intro w hSw; (try dsimp only at hSw); go_simp; try with_reducible rfl)
      try simp only [List.setIfInBounds_toArray, List.set_cons_zero, List.set_cons_succ]
      refine takeD 13 44 (v := ?_) rfl rfl (by kernel_rfl) (by kernel_rfl) (by kernel_rfl) (fun _ _ _ h => h) (Or.inl ⟨by kernel_rfl, ?hy⟩) hHeld ?_
      case hy => (intro w hSw; (try dsimp only at hSw); go_simp; try with_reducible rfl)
      try simp only [List.setIfInBounds_toArray, List.set_cons_zero, List.set_cons_succ]
      refine takeD 14 45 (v := ?_) rfl rfl (by kernel_rfl) (by kernel_rfl) (by kernel_rfl) (fun _ _ _ h => h) (Or.inl ⟨by kernel_rfl, ?hy⟩) hHeld ?_
      case hy => (intro w hSw; (try dsimp only at hSw); go_simp; try with_reducible rfl)
      try simp only [List.setIfInBounds_toArray, List.set_cons_zero, List.set_cons_succ]
      refine takeD 15 46 (v := ?_) rfl rfl (by kernel_rfl) (by kernel_rfl) (by kernel_rfl) (fun _ _ _ h => h) (Or.inl ⟨by kernel_rfl, ?hy⟩) hHeld ?_
      case hy => (intro w hSw; (try dsimp only at hSw); go_simp; try with_reducible rfl)
      try simp only [List.setIfInBounds_toArray, List.set_cons_zero, List.set_cons_succ]
      refine takeD 16 47 (v := ?_) rfl rfl (by kernel_rfl) (by kernel_rfl) (by kernel_rfl) (fun _ _ _ h => h) (Or.inl ⟨by kernel_rfl, ?hy⟩) hHeld ?_
      case hy => (intro w hSw; (try dsimp only at hSw); go_simp; try with_reducible rfl)
      try simp only [List.setIfInBounds_toArray, List.set_cons_zero, List.set_cons_succ]
      refine wpAnyH_ready (rs := [5, 17]) (by kernel_rfl) (by simp) ?_
      refine AllReadyH.cons rfl (fun Kc hKc => ?_) (AllReadyH.cons rfl (fun Kc hKc => ?_) AllReadyH.nil)
      rotate_left 1
      focus
       refine Eq.mpr (if_pos (by kernel_rfl)) ?_
       go_simp
       ((with_reducible refine (r5Mul_s K K (by omega) _ s4 s5 s6 s7 a4 a5 a6 a7 n4 c4 n5 c5 n6 c6 n7 c7 x y hR2 hR3 p HPE).mono ?_); rintro e w1 ⟨a11, n11, c11, a12, n12, c12, rfl, h11, h12, hE1⟩; replace f0 := frozenE hE1 u0 f0; replace f1 := frozenE hE1 u1 f1; replace f2 := frozenE hE1 u2 f2; replace f3 := frozenE hE1 u3 f3; replace hc7 := cellE hE1 hc7; replace v0 := cellE hE1 v0; replace v1 := cellE hE1 v1; replace v2 := cellE hE1 v2; replace v3 := cellE hE1 v3; replace y0 := cellE hE1 y0; replace y1 := cellE hE1 y1; replace y2 := cellE hE1 y2; replace y3 := cellE hE1 y3; replace u0 := cellE hE1 u0; replace u1 := cellE hE1 u1; replace u2 := cellE hE1 u2; replace u3 := cellE hE1 u3; replace hR1 := hR1.ext hE1; have hR4 := ratS_mk h11 h12 HPK.out.1 HPK.out.2; replace hsz := Nat.le_trans hsz hE1.size; replace hE0 := Ext.trans hE0 hE1)
       go_wp2_with fail
       refine hKc.out _ _ ⟨hc7, v0, v1, v2, v3, y0, y1, y2, y3⟩ (fun hHeld => ?_)
       clear hKc Kc
       try simp only [Act.put, List.setIfInBounds_toArray, List.set_cons_zero, List.set_cons_succ]
       refine stepD 5 rfl (by kernel_rfl) (fun Kc hKc => ?_)
       refine Eq.mpr (if_pos (by kernel_rfl)) ?_
       go_simp
       refine hKc.out _ _ ⟨hc7, v0, v1, v2, v3, y0, y1, y2, y3⟩ (fun hHeld => ?_)
       clear hKc Kc
       try simp only [Act.put, List.setIfInBounds_toArray, List.set_cons_zero, List.set_cons_succ]
      rotate_right 1
      focus
       refine Eq.mpr (if_pos (by kernel_rfl)) ?_
       go_simp
       refine hKc.out _ _ ⟨hc7, v0, v1, v2, v3, y0, y1, y2, y3⟩ (fun hHeld => ?_)
       clear hKc Kc
       try simp only [Act.put, List.setIfInBounds_toArray, List.set_cons_zero, List.set_cons_succ]
       refine stepD 17 rfl (by kernel_rfl) (fun Kc hKc => ?_)
       refine Eq.mpr (if_pos (by kernel_rfl)) ?_
       go_simp
       ((with_reducible refine (r5Mul_s K K (by omega) _ s4 s5 s6 s7 a4 a5 a6 a7 n4 c4 n5 c5 n6 c6 n7 c7 x y hR2 hR3 p HPE).mono ?_); rintro e w1 ⟨a11, n11, c11, a12, n12, c12, rfl, h11, h12, hE1⟩; replace f0 := frozenE hE1 u0 f0; replace f1 := frozenE hE1 u1 f1; replace f2 := frozenE hE1 u2 f2; replace f3 := frozenE hE1 u3 f3; replace hc7 := cellE hE1 hc7; replace v0 := cellE hE1 v0; replace v1 := cellE hE1 v1; replace v2 := cellE hE1 v2; replace v3 := cellE hE1 v3; replace y0 := cellE hE1 y0; replace y1 := cellE hE1 y1; replace y2 := cellE hE1 y2; replace y3 := cellE hE1 y3; replace u0 := cellE hE1 u0; replace u1 := cellE hE1 u1; replace u2 := cellE hE1 u2; replace u3 := cellE hE1 u3; replace hR1 := hR1.ext hE1; have hR4 := ratS_mk h11 h12 HPK.out.1 HPK.out.2; replace hsz := Nat.le_trans hsz hE1.size; replace hE0 := Ext.trans hE0 hE1)
       go_wp2_with fail
       refine hKc.out _ _ ⟨hc7, v0, v1, v2, v3, y0, y1, y2, y3⟩ (fun hHeld => ?_)
       clear hKc Kc
       try simp only [Act.put, List.setIfInBounds_toArray, List.set_cons_zero, List.set_cons_succ]
      all_goals
       refine stepD 18 rfl (by kernel_rfl) (fun Kc hKc => ?_)
       refine Eq.mpr (if_pos (by kernel_rfl)) ?_
       go_simp
       ((with_reducible refine (r5Add_s (2 * K + 1048576) (K + K) (by omega) _ s1 s2 _ _ a1 a3 a11 a12 n1 c1 n3 c3 n11 c11 n12 c12 (S i j) p hR1 hR4 t HTG).mono ?_); rintro e w1 ⟨a13, n13, c13, a14, n14, c14, rfl, h13, h14, hE1⟩; replace f0 := frozenE hE1 u0 f0; replace f1 := frozenE hE1 u1 f1; replace f2 := frozenE hE1 u2 f2; replace f3 := frozenE hE1 u3 f3; replace hc7 := cellE hE1 hc7; replace v0 := cellE hE1 v0; replace v1 := cellE hE1 v1; replace v2 := cellE hE1 v2; replace v3 := cellE hE1 v3; replace y0 := cellE hE1 y0; replace y1 := cellE hE1 y1; replace y2 := cellE hE1 y2; replace y3 := cellE hE1 y3; replace u0 := cellE hE1 u0; replace u1 := cellE hE1 u1; replace u2 := cellE hE1 u2; replace u3 := cellE hE1 u3; replace h13 := h13.mono hsz (Kept.refl _ _); replace h14 := h14.mono hsz (Kept.refl _ _); have hE5 := Ext.trans hE0 hE1)
       go_wp2_with fail
       refine hKc.out _ _ ⟨hc7, v0, v1, v2, v3, y0, y1, y2, y3⟩ (fun hHeld => ?_)
       clear hKc Kc
       try simp only [Act.put, List.setIfInBounds_toArray, List.set_cons_zero, List.set_cons_succ]
       refine takeD 19 50 (v := ?_) rfl rfl (by kernel_rfl) (by kernel_rfl) (by kernel_rfl) (fun _ _ _ h => h) (Or.inl ⟨by kernel_rfl, ?hy⟩) hHeld ?_
       case hy => (intro w hSw; (try dsimp only at hSw); go_simp; try with_reducible rfl)
       try simp only [List.setIfInBounds_toArray, List.set_cons_zero, List.set_cons_succ]
       refine stepD 20 rfl (by kernel_rfl) (fun Kc hKc => ?_)
       refine Eq.mpr (if_pos (by kernel_rfl)) ?_
       go_simp
       refine hKc.out _ _ (by go_keep) (fun hHeld => ?_)
       clear hKc Kc
       try simp only [Act.put, List.setIfInBounds_toArray, List.set_cons_zero, List.set_cons_succ]
       refine wpAnyH_done (by kernel_rfl) ?_ _
       refine NoPanic.normal ?_
      all_goals
       have HG2 := Lib.hid ((HGP.out.keep hE5.size (fun b _ h2 => hE5.block b h2)).put hin (x := t) (cs := [.bool (decide (t.num < 0)), .slice a13 n13 c13, .bool false, .slice a14 n14 c14]) (Bx := wr.heap.size) (ratK_mk h13 h14 HTK.out.1 HTK.out.2) (by omega) hgl)
       have HAX2 := Lib.hid ((HAX.out.ext hE5).set (List.mem_singleton.2 rfl) [.bool (decide (t.num < 0)), .slice a13 n13 c13, .bool false, .slice a14 n14 c14] (i * 4))
       have HAY2 := Lib.hid ((HAY.out.ext hE5).set [.bool (decide (t.num < 0)), .slice a13 n13 c13, .bool false, .slice a14 n14 c14] (i * 4))
       have HE2 := Lib.hid (ext_set4' (Ext.trans HE.out hE5) (i * 4) (.bool (decide (t.num < 0))) (.slice a13 n13 c13) (.bool false) (.slice a14 n14 c14) (b := wz.heap.size) hWz)
       clear h13 h14 h11 h12 hE5 hE0 hE1 hR1 hR2 hR3 hR4 hc7 v0 v1 v2 v3 y0 y1 y2 y3 u0 u1 u2 u3 f0 f1 f2 f3
       go_wp2_with fail
       go_roundg (n2' - (j + 1))
       case measure => omega
       case rel => exact ⟨j + 1, by omega, rfl, by go_num, Lib.hid ⟨_, by rw [HTE.out]; exact HG2.out⟩, HAX2, HAY2, HE2⟩
     ·obtain rfl : j = n2' := by omega
      have HG3 := HGi
      rw [HPS.out] at HG3
      go_wp2_with fail
      go_roundg (n2 - (i + 1))
      case measure => omega
      case rel => exact ⟨i + 1, by omega, rfl, by go_num, HG3, HAX, HAY, HE⟩
   ·obtain rfl : i = n2 := by omega
    obtain ⟨css, hGi⟩ := HGi.out
    obtain ⟨ar, cr, hv, hT⟩ := hGi.sl
    cases hv
    rw [HQ.out] at hT
    clear hGi
    have HRR := Lib.hid (Sl.mono hT (Nat.zero_le _) (Kept.refl _ _))
    clear hT
    go_wp2_with fail
    (with_reducible refine (r11Vec_n (2 * K + 1048576) (2 * K) (by omega) wr (some ⟨wz.heap.size, 0, none⟩) i i qs HRR.out HCD.out (by omega)).mono ?_)
    rintro e w5 ⟨a9, n9, c9, a10, n10, c10, rfl, h9, h10, hE5⟩
    have r0 := HR0.out.ext (Ext.trans HE.out hE5)
    skip
    replace r0_0 := r0.cell (i := 0) rfl
    replace r0_1 := r0.cell (i := 1) rfl
    replace r0_2 := r0.cell (i := 2) rfl
    replace r0_f0 := r0.free 0
    replace r0_f1 := r0.free 1
    replace r0_f2 := r0.free 2
    replace r0_lt := r0.lt
    have hW2 := HE.out.size
    have HF : Hid (RVRefN w qs (.returned (.agg #[.bool false, .slice a9 n9 c9, .slice a10 n10 c10])) (((w5.setCell ⟨w.heap.size + 1 + 1, 0, none⟩ (.bool false)).setCell ⟨w.heap.size + 1 + 1, 1, none⟩ (.slice a9 n9 c9)).setCell ⟨w.heap.size + 1 + 1, 2, none⟩ (.slice a10 n10 c10))) := Lib.hid ⟨a9, n9, c9, a10, n10, c10, rfl, h9.mono (by omega) (kept_set3 _ _ _ _ (by omega)), h10.mono (by omega) (kept_set3 _ _ _ _ (by omega)), ext_set3 (Ext.trans HEW.out (Ext.trans HE.out hE5)) _ _ _ (by omega)⟩
    clear h9 h10 hE5
    have r02 : Blk ((((w5).setCell ⟨w.heap.size + 1 + 1, 0, none⟩ (.bool false)).setCell ⟨w.heap.size + 1 + 1, 1, none⟩ (.slice a9 n9 c9)).setCell ⟨w.heap.size + 1 + 1, 2, none⟩ (.slice a10 n10 c10)) _ _ #[.bool false, .slice a9 n9 c9, .slice a10 n10 c10] := (((r0).set 0 (.bool false)).set 1 (.slice a9 n9 c9)).set 2 (.slice a10 n10 c10)
    have hr00 := r02.cell (i := 0) rfl
    have hr01 := r02.cell (i := 1) rfl
    have hr02 := r02.cell (i := 2) rfl
    go_wp2_with fail
    exact bodyPost_ret (v := .agg #[.bool false, .slice a9 n9 c9, .slice a10 n10 c10]) (by simp [results, Tryz.results57, go_sem, hr00, hr01, hr02]) rfl HF.out
end Go.Proofs.YtbhenelehhiakaaGreat
namespace Go.Proofs.YtbhenelehhiakaaGreat
open Go.RowKit
theorem MatS.len2 {K : Nat} {w : World} {b : Bool} {a a2 : Option Addr} {n c n2 c2 : Nat} {d : Int} {zss : List (List Int)} (h : MatS K w b a n c a2 n2 c2 d zss) : zss.length = n2 := by
 obtain ⟨_, _, _, _, h4⟩ := h
 exact h4.len
end Go.Proofs.YtbhenelehhiakaaGreat
namespace Go.Proofs.YtbhenelehhiakaaGreat
open Go.RowKit
theorem colsOf_le {zss : List (List Int)} {k : Nat} (h : ∀ zs ∈ zss, zs.length ≤ k) : colsOf zss ≤ k := by
 cases zss with
 | nil => exact Nat.zero_le _
 | cons z zs => exact h z (List.mem_cons_self ..)
def ivR (xss : List (List It)) : List (List Int) := xss.map fun xs => xs.map fun x => ival x.1 x.2
theorem Sl.behind {α β : Type} {r : Rd α} {s : Rd β} {B B' : Nat} {w : World} {a : Option Addr} {n c : Nat} {xs : List α} (P : α → β → Prop) (h : Sl r B w a n c xs) (hB : B' ≤ B) (hs : r.size = s.size) (hok : ∀ cs x, x ∈ xs → r.ok B w cs x → ∃ y, s.ok B' w cs y ∧ P x y) : ∃ ys : List β, Sl s B' w a n c ys ∧ ys.length = xs.length ∧ ∀ i (h1 : i < xs.length) (h2 : i < ys.length), P xs[i] ys[i] := by
 obtain ⟨ys, hl, hys⟩ := exists_list (α := β) (n := xs.length) (fun i y => ∃ hi : i < xs.length, ∃ b o cs, a = some ⟨b, o, none⟩ ∧ s.ok B' w cs y ∧ P xs[i] y ∧ ∀ j (hj : j < cs.length), Cel B' w b (o + i * s.size + j) cs[j]) (fun i hi => by
  obtain ⟨b, o, cs, ha, hr, hc⟩ := h.at_ i hi
  obtain ⟨y, h1, h2⟩ := hok _ _ (List.getElem_mem _) hr
  refine ⟨y, hi, b, o, cs, ha, h1, h2, fun j hj => ?_⟩
  obtain ⟨g1, g2, g3⟩ := hc j hj
  rw [← hs]
  exact ⟨Nat.le_trans hB g1, g2, g3⟩)
 refine ⟨ys, ⟨by rw [hl]; exact h.len, h.cap, h.most, h.nil, fun i hi => ?_⟩, hl, fun i h1 h2 => ?_⟩
 ·obtain ⟨_, b, o, cs, ha, h1, _, h3⟩ := hys i hi
  exact ⟨b, o, cs, ha, h1, h3⟩
 ·obtain ⟨_, _, _, _, _, _, h3, _⟩ := hys i h2
  exact h3
theorem Sl.mapm {α β : Type} {r : Rd α} {s : Rd β} {B B' : Nat} {w : World} {a : Option Addr} {n c : Nat} {xs : List α} (f : α → β) (h : Sl r B w a n c xs) (hB : B' ≤ B) (hs : r.size = s.size) (hok : ∀ cs x, x ∈ xs → r.ok B w cs x → s.ok B' w cs (f x)) : Sl s B' w a n c (xs.map f) :=
 ⟨by rw [List.length_map]; exact h.len, h.cap, h.most, h.nil, fun i hi => by
  obtain ⟨b, o, cs, ha, hr, hc⟩ := h.at_ i (by simpa using hi)
  refine ⟨b, o, cs, ha, by rw [List.getElem_map]; exact hok _ _ (List.getElem_mem _) hr, fun j hj => ?_⟩
  obtain ⟨h1, h2, h3⟩ := hc j hj
  rw [← hs]
  exact ⟨Nat.le_trans hB h1, h2, h3⟩⟩
theorem Sl.rawK {K B : Nat} {w : World} {a : Option Addr} {n c : Nat} {zs : List Int} (h : Sl (rIntK K) B w a n c zs) : ∃ xs : List It, Sl rInt B w a n c xs ∧ (xs.map fun x => ival x.1 x.2) = zs ∧ ∀ x ∈ xs, x.2.length ≤ K := by
 obtain ⟨xs, h1, hl, hp⟩ := h.behind (s := rInt) (fun z x => ival x.1 x.2 = z ∧ x.2.length ≤ K) (Nat.le_refl _) rfl (fun cs z _ ⟨b, a, n, c, l, e, hs, hz, hn⟩ => ⟨(b, l), ⟨[.bool b], [.slice a n c], e, rfl, a, n, c, rfl, hs⟩, hz, by show l.length ≤ K; rw [hs.len]; exact hn⟩)
 refine ⟨xs, h1, List.ext_getElem (by simp [hl]) fun i g1 g2 => ?_, fun x hx => ?_⟩
 ·rw [List.getElem_map]
  exact (hp i g2 (by omega)).1
 ·obtain ⟨i, hi, rfl⟩ := List.getElem_of_mem hx
  exact (hp i (by omega) hi).2
theorem Sl.rawKs {K B : Nat} {w : World} {a : Option Addr} {n c : Nat} {zss : List (List Int)} (h : Sl (rIntK K).slice B w a n c zss) : ∃ xss : List (List It), Sl rInts B w a n c xss ∧ ivR xss = zss ∧ ∀ xs ∈ xss, ∀ x ∈ xs, x.2.length ≤ K := by
 obtain ⟨xss, h1, hl, hp⟩ := h.behind (s := rInts) (fun zs xs => (xs.map fun x => ival x.1 x.2) = zs ∧ ∀ x ∈ xs, x.2.length ≤ K) (Nat.le_refl _) rfl (fun cs zs _ ⟨a, n, c, e, hs⟩ => by
  obtain ⟨xs, g1, g2, g3⟩ := hs.rawK
  exact ⟨xs, ⟨a, n, c, e, g1⟩, g2, g3⟩)
 refine ⟨xss, h1, (show (xss.map fun xs => xs.map fun x => ival x.1 x.2) = zss from List.ext_getElem (by simp [hl]) fun i g1 g2 => ?_), fun x hx => ?_⟩
 ·rw [List.getElem_map]
  exact (hp i g2 (by omega)).1
 ·obtain ⟨i, hi, rfl⟩ := List.getElem_of_mem hx
  exact (hp i (by omega) hi).2
def RawB (B : Nat) (K : Nat) (w : World) (b : Bool) (a : Option Addr) (n c : Nat) (a2 : Option Addr) (n2 c2 : Nat) (d : Int) (zss : List (List Int)) (l : Nt) (xss : List (List It)) : Prop :=
 NatS B w a n c l ∧ Sl rInts B w a2 n2 c2 xss ∧ ival b l = d ∧ n ≤ K ∧ ivR xss = zss ∧ ∀ xs ∈ xss, ∀ x ∈ xs, x.2.length ≤ K
abbrev RawM := RawB 0
theorem MatS.raw {K : Nat} {w : World} {b : Bool} {a a2 : Option Addr} {n c n2 c2 : Nat} {d : Int} {zss : List (List Int)} (h : MatS K w b a n c a2 n2 c2 d zss) : ∃ l xss, RawM K w b a n c a2 n2 c2 d zss l xss := by
 obtain ⟨l, h1, h2, h3, h4⟩ := h
 obtain ⟨xss, g1, g2, g3⟩ := h4.rawKs
 exact ⟨l, xss, h1, g1, h2, h3, g2, g3⟩
theorem RawB.zero {B K : Nat} {w : World} {b : Bool} {a a2 : Option Addr} {n c n2 c2 : Nat} {d : Int} {zss : List (List Int)} {l : Nt} {xss : List (List It)} (h : RawB B K w b a n c a2 n2 c2 d zss l xss) : RawM K w b a n c a2 n2 c2 d zss l xss :=
 ⟨h.1.mono (Nat.zero_le _) (Kept.refl _ _), h.2.1.mono (Nat.zero_le _) (Kept.refl _ _), h.2.2⟩
theorem RawB.mono {B B' K : Nat} {w w' : World} {b : Bool} {a a2 : Option Addr} {n c n2 c2 : Nat} {d : Int} {zss : List (List Int)} {l : Nt} {xss : List (List It)} (h : RawB B K w b a n c a2 n2 c2 d zss l xss) (hB : B' ≤ B) (hk : Kept B w w') : RawB B' K w' b a n c a2 n2 c2 d zss l xss :=
 ⟨h.1.mono hB hk, h.2.1.mono hB hk, h.2.2⟩
theorem RawB.nat {B K : Nat} {w : World} {b : Bool} {a a2 : Option Addr} {n c n2 c2 : Nat} {d : Int} {zss : List (List Int)} {l : Nt} {xss : List (List It)} (h : RawB B K w b a n c a2 n2 c2 d zss l xss) : NatS B w a n c l := h.1
theorem RawB.ext {B K : Nat} {w w' : World} {b : Bool} {a a2 : Option Addr} {n c n2 c2 : Nat} {d : Int} {zss : List (List Int)} {l : Nt} {xss : List (List It)} (h : RawB B K w b a n c a2 n2 c2 d zss l xss) (hE : Ext w w') : RawB B K w' b a n c a2 n2 c2 d zss l xss :=
 ⟨h.1.ext (Nat.le_refl _) hE, h.2.1.ext (Nat.le_refl _) hE, h.2.2⟩
end Go.Proofs.YtbhenelehhiakaaGreat
namespace Go.Proofs.YtbhenelehhiakaaGreat
open Go.RowKit
theorem MatS.weak {K K' : Nat} {w : World} {b : Bool} {a a2 : Option Addr} {n c n2 c2 : Nat} {d : Int} {zss : List (List Int)} (h : MatS K w b a n c a2 n2 c2 d zss) (hK : K ≤ K') : MatS K' w b a n c a2 n2 c2 d zss := by
 obtain ⟨l, h1, h2, h3, h4⟩ := h
 exact ⟨l, h1, h2, Nat.le_trans h3 hK, h4.weak (s := (rIntK K').slice) (Nat.le_refl _) rfl fun cs zs ⟨a, n, c, e, hs⟩ => ⟨a, n, c, e, hs.weak (s := rIntK K') (Nat.le_refl _) rfl fun cs z ⟨b, a, n, c, l, e, g1, g2, g3⟩ => ⟨b, a, n, c, l, e, g1, g2, Nat.le_trans g3 hK⟩⟩⟩
end Go.Proofs.YtbhenelehhiakaaGreat
namespace Go.Proofs.YtbhenelehhiakaaGreat
open Go.RowKit
def RawV (K : Nat) (w : World) (b : Bool) (a : Option Addr) (n c : Nat) (a2 : Option Addr) (n2 c2 : Nat) (d : Int) (zs : List Int) (l : Nt) (xs : List It) : Prop :=
 NatS 0 w a n c l ∧ Sl rInt 0 w a2 n2 c2 xs ∧ ival b l = d ∧ n ≤ K ∧ (xs.map fun x => ival x.1 x.2) = zs ∧ ∀ x ∈ xs, x.2.length ≤ K
theorem VecS.raw {K : Nat} {w : World} {b : Bool} {a a2 : Option Addr} {n c n2 c2 : Nat} {d : Int} {zs : List Int} (h : VecS K w b a n c a2 n2 c2 d zs) : ∃ l xs, RawV K w b a n c a2 n2 c2 d zs l xs := by
 obtain ⟨l, h1, h2, h3, h4⟩ := h
 obtain ⟨xs, g1, g2, g3⟩ := h4.rawK
 exact ⟨l, xs, h1, g1, h2, h3, g2, g3⟩
theorem RawV.vec {K : Nat} {w : World} {b : Bool} {a a2 : Option Addr} {n c n2 c2 : Nat} {d : Int} {zs : List Int} {l : Nt} {xs : List It} (h : RawV K w b a n c a2 n2 c2 d zs l xs) : VecS K w b a n c a2 n2 c2 d zs := by
 obtain ⟨h1, h2, h3, h4, rfl, h6⟩ := h
 exact ⟨l, h1, h3, h4, h2.mapm (s := rIntK K) (fun x => ival x.1 x.2) (Nat.le_refl _) rfl fun cs x hx ⟨c1, c2, e, h1, a, n, c, h2, h3⟩ => by
  obtain ⟨b, l⟩ := x
  obtain rfl : c1 = [.bool b] := h1
  exact ⟨b, a, n, c, l, by rw [e, h2]; rfl, h3, rfl, by have := h6 _ hx; rw [h3.len] at this; exact this⟩⟩
theorem RawV.ext {K : Nat} {w w' : World} {b : Bool} {a a2 : Option Addr} {n c n2 c2 : Nat} {d : Int} {zs : List Int} {l : Nt} {xs : List It} (h : RawV K w b a n c a2 n2 c2 d zs l xs) (hE : Ext w w') : RawV K w' b a n c a2 n2 c2 d zs l xs :=
 ⟨h.1.ext (Nat.le_refl _) hE, h.2.1.ext (Nat.le_refl _) hE, h.2.2⟩
theorem copyVec_raw (K : Nat) (hK : K ≤ 1099511627776) (w : World) (b : Bool) (a a2 : Option Addr) (n c n2 c2 : Nat) (d : Int) (zs : List Int) (l : Nt) (xs : List It) (h : RawV K w b a n c a2 n2 c2 d zs l xs) (hn2 : n2 ≤ 1099511627776) :
  Calls Tryz.prog 50 #[.agg #[.bool b, .slice a n c, .slice a2 n2 c2]] w (fun e w' => ∃ a' c' a2' c2', e = .returned (.agg #[.bool b, .slice a' n c', .slice a2' n2 c2']) ∧ RawV K w' b a' n c' a2' n2 c2' d zs l xs ∧ Ext w w') := by
 obtain ⟨h1, h2, h3, h4, h5, h6⟩ := h
 refine (r11CopyVec_any w b a a2 n c n2 c2 l xs h1 h2 (Lib.hid fun x hx => Nat.le_trans (h6 x hx) hK) (by omega) hn2).mono ?_
 rintro e w' ⟨a', c', a2', c2', rfl, g1, g2, hE⟩
 exact ⟨a', c', a2', c2', rfl, ⟨Sl.zero g1, Sl.zero g2, h3, h4, h5, h6⟩, hE⟩
def rawN (qs : List Rat) : List It := (qs.map (comNum (comDen qs))).map rawI
theorem rawI_inj {x y : Int} (h : rawI x = rawI y) : x = y := by
 rw [← ival_norm x, ← ival_norm y]
 obtain ⟨h1, h2⟩ := Prod.mk.inj h
 rw [h1, h2]
theorem norm_inj (X Y : List Rat) : ((false, limbs (comDen X)) = (false, limbs (comDen Y)) ∧ rawN X = rawN Y) ↔ X = Y := by
 constructor
 ·rintro ⟨h1, h2⟩
  have hD : comDen X = comDen Y := limbs_inj (Prod.mk.inj h1).2
  unfold rawN at h2
  rw [← hD] at h2
  have hl : X.length = Y.length := by have := congrArg List.length h2; simpa using this
  refine List.ext_getElem hl fun i g1 g2 => ?_
  have e : rawI (comNum (comDen X) X[i]) = rawI (comNum (comDen X) Y[i]) := by
   have := congrArg (fun l => l[i]?) h2
   simpa [List.getElem?_eq_getElem g1, List.getElem?_eq_getElem g2] using this
  have e := rawI_inj e
  have e1 := comNum_eq (comDen X) X[i] (den_dvd_comDen _ _ (List.getElem_mem _))
  have e2 := comNum_eq (comDen X) Y[i] (by rw [hD]; exact den_dvd_comDen _ _ (List.getElem_mem _))
  rw [e, ← e2] at e1
  have hp := comDen_pos X
  have hne : (((comDen X : Nat) : Int) : Rat) ≠ 0 := fun h => by
   have := Rat.intCast_inj.1 (show (((comDen X : Nat) : Int) : Rat) = ((0 : Int) : Rat) from h)
   omega
  have h3 : X[i] * (((comDen X : Nat) : Int) : Rat) * (((comDen X : Nat) : Int) : Rat)⁻¹ = Y[i] * (((comDen X : Nat) : Int) : Rat) * (((comDen X : Nat) : Int) : Rat)⁻¹ := by rw [e1]
  rwa [Rat.mul_assoc, Rat.mul_assoc, Rat.mul_inv_cancel _ hne, Rat.mul_one, Rat.mul_one] at h3
 ·rintro rfl
  exact ⟨rfl, rfl⟩
theorem norm_dec (X Y : List Rat) (sb : Bool) (h : sb = true ↔ X = Y) : decide ((false, limbs (comDen X)) = (false, limbs (comDen Y)) ∧ rawN X = rawN Y) = sb := by
 cases sb with
 | true => exact decide_eq_true ((norm_inj X Y).2 (h.1 rfl))
 | false => exact decide_eq_false fun g => by have := h.2 ((norm_inj X Y).1 g); cases this
def OkV (w : World) (s : Int) (b : Bool) (a : Option Addr) (n c : Nat) (a2 : Option Addr) (n2 c2 : Nat) (qs : List Rat) : Prop := (s = 0 → b = false ∧ NatS 0 w a n c (limbs (comDen qs)) ∧ Sl rInt 0 w a2 n2 c2 (rawN qs)) ∧ (s ≠ 0 → b = false ∧ a = none ∧ n = 0 ∧ c = 0 ∧ a2 = none ∧ n2 = 0 ∧ c2 = 0)
theorem OkV.ext {w w' : World} {s : Int} {b : Bool} {a a2 : Option Addr} {n c n2 c2 : Nat} {qs : List Rat} (h : OkV w s b a n c a2 n2 c2 qs) (hE : Ext w w') : OkV w' s b a n c a2 n2 c2 qs :=
 ⟨fun h0 => by obtain ⟨h1, h2, h3⟩ := h.1 h0; exact ⟨h1, h2.ext (Nat.le_refl _) hE, h3.ext (Nat.le_refl _) hE⟩, h.2⟩
theorem OkV.mk {w0 w : World} {s : Int} {b : Bool} {a a2 : Option Addr} {n c n2 c2 : Nat} {qs : List Rat} (h1 : s ≠ 0 → b = false ∧ a = none ∧ n = 0 ∧ c = 0 ∧ a2 = none ∧ n2 = 0 ∧ c2 = 0) (h2 : s = 0 → b = false ∧ NatS w0.heap.size w a n c (limbs (comDen qs)) ∧ Sl rIntN w0.heap.size w a2 n2 c2 (nrmN qs)) : OkV w s b a n c a2 n2 c2 qs :=
 ⟨fun h0 => by obtain ⟨g1, g2, g3⟩ := h2 h0; exact ⟨g1, Sl.zero g2, rawInts g3⟩, h1⟩
theorem RVRefN.raw {w w' : World} {qs : List Rat} {e : Ending} (h : RVRefN w qs e w') : ∃ a n c a2 n2 c2, e = .returned (.agg #[.bool false, .slice a n c, .slice a2 n2 c2]) ∧ NatS 0 w' a n c (limbs (comDen qs)) ∧ Sl rInt 0 w' a2 n2 c2 (rawN qs) ∧ Ext w w' := h.ref
theorem vaddE_zero {x y : Int × List Int} {q : Int × Int} (h : vaddE x y q = 0) : x.1 ≠ 0 ∧ y.1 ≠ 0 ∧ q.2 ≠ 0 ∧ x.2.length = y.2.length := by
 unfold vaddE at h
 by_cases h0 : vecsE [x, y] = 0
 ·rw [if_neg (by simpa using h0)] at h
  by_cases h1 : q.2 = 0
  ·rw [if_pos h1] at h; cases h
  ·rw [if_neg h1] at h
   by_cases h2 : x.2.length = y.2.length
   ·exact ⟨vecsE_zero h0 x (by simp), vecsE_zero h0 y (by simp), h1, h2⟩
   ·rw [if_pos h2] at h; cases h
 ·rw [if_pos h0] at h; exact absurd h h0
theorem applyE_zero {x : Int × List (List Int)} {y : Int × List Int} (h : applyE x y = 0) : checkE x.1 x.2 = 0 ∧ y.1 ≠ 0 ∧ colsOf x.2 = y.2.length := by
 unfold applyE at h
 by_cases h0 : checkE x.1 x.2 = 0
 ·rw [if_neg (by simpa using h0)] at h
  by_cases h1 : y.1 = 0
  ·rw [if_pos h1] at h; cases h
  ·rw [if_neg h1] at h
   by_cases h2 : colsOf x.2 = y.2.length
   ·exact ⟨h0, h1, h2⟩
   ·rw [if_pos h2] at h; cases h
 ·rw [if_pos h0] at h; exact absurd h h0
end Go.Proofs.YtbhenelehhiakaaGreat
namespace Go.Proofs.YtbhenelehhiakaaGreat
def regAt (k : Nat) : Code → Option Code
 | .region i ops b => if i = k then some (.region i ops b) else none
 | .seq a b => match regAt k a with
  | some c => some c
  | none => regAt k b
 | .loop c => regAt k c
 | .block _ c => regAt k c
 | .scope c => regAt k c
 | .cond _ a b => match regAt k a with
  | some c => some c
  | none => regAt k b
 | _ => none
end Go.Proofs.YtbhenelehhiakaaGreat
namespace Go.Proofs.YtbhenelehhiakaaGreat
open Go.RowKit
section
variable {P : Program} {md : Region.Mode} {ops : Array Oper} {Q : Exit → Act → World → Prop} {S : World → Prop}
theorem takeY (i d : Nat) {oi : Oper} {v : Value} {fuel : Nat} {listed l2 : Array Bool} {t t2 : Array Value} {df : List Deferred} {w : World} (hS : S w)
  (h : wpAnyH P md ops Q S fuel l2 { tmps := t2, defers := df } w)
  (hi : ops[i]? = some oi := by exact rfl) (hd : oi.dst = some d := by exact rfl)
  (hs : Region.noSelect ops = true := by as_aux_lemma => kernel_rfl) (hf : Region.free md ops listed i = true := by as_aux_lemma => kernel_rfl) (hr : (Region.ready md ops listed).contains i = true := by as_aux_lemma => kernel_rfl)
  (hw : Region.wanted oi (yielded ops t) = true := by as_aux_lemma => kernel_rfl)
  (hQ : ∀ c a w, Q (.panic c) (a.put oi.dst v) w → Q (.panic c) a w := by exact fun _ _ _ h => h)
  (hy : ∀ w, S w → (execOp (Act.eval { tmps := t, defers := df }) oi).run P w = .ok (.value v) w := by intro w hSw; (try dsimp only at hSw); go_simp; try with_reducible rfl)
  (hl : listed.setIfInBounds i true = l2 := by (try simp only [List.setIfInBounds_toArray, List.set_cons_zero, List.set_cons_succ]) <;> rfl)
  (ht : t.setIfInBounds d v = t2 := by (try simp only [List.setIfInBounds_toArray, List.set_cons_zero, List.set_cons_succ]) <;> rfl) : wpAnyH P md ops Q S (fuel + 1) listed { tmps := t, defers := df } w :=
 takeD i d hi hd hs hf hr hQ (.inl ⟨hw, hy⟩) hS (by rw [hl, ht]; exact h)
theorem passY (i d : Nat) {oi : Oper} {fuel : Nat} {listed l2 : Array Bool} {t t2 : Array Value} {df : List Deferred} {w : World} (hS : S w)
  (h : wpAnyH P md ops Q S fuel l2 { tmps := t2, defers := df } w)
  (hi : ops[i]? = some oi := by exact rfl) (hd : oi.dst = some d := by exact rfl)
  (hs : Region.noSelect ops = true := by as_aux_lemma => kernel_rfl) (hf : Region.free md ops listed i = true := by as_aux_lemma => kernel_rfl) (hr : (Region.ready md ops listed).contains i = true := by as_aux_lemma => kernel_rfl)
  (hw : Region.wanted oi (yielded ops t) = false := by as_aux_lemma => kernel_rfl)
  (hQ : ∀ c a w, Q (.panic c) (a.put oi.dst undef) w → Q (.panic c) a w := by exact fun _ _ _ h => h)
  (hl : listed.setIfInBounds i true = l2 := by (try simp only [List.setIfInBounds_toArray, List.set_cons_zero, List.set_cons_succ]) <;> rfl)
  (ht : t.setIfInBounds d undef = t2 := by (try simp only [List.setIfInBounds_toArray, List.set_cons_zero, List.set_cons_succ]) <;> rfl) : wpAnyH P md ops Q S (fuel + 1) listed { tmps := t, defers := df } w :=
 takeD i d hi hd hs hf hr hQ (.inr ⟨hw, rfl⟩) hS (by rw [hl, ht]; exact h)
theorem skipY (i d : Nat) {oi : Oper} {fuel : Nat} {listed l2 : Array Bool} {t t2 : Array Value} {df : List Deferred} {w : World} (hS : S w)
  (h : wpAnyH P md ops Q S fuel l2 { tmps := t2, defers := df } w)
  (hi : ops[i]? = some oi := by exact rfl) (hd : oi.dst = some d := by exact rfl) (hr : Region.ready md ops listed = [i] := by as_aux_lemma => kernel_rfl)
  (hw : Region.wanted oi (yielded ops t) = false := by as_aux_lemma => kernel_rfl)
  (hl : listed.setIfInBounds i true = l2 := by (try simp only [List.setIfInBounds_toArray, List.set_cons_zero, List.set_cons_succ]) <;> rfl)
  (ht : t.setIfInBounds d undef = t2 := by (try simp only [List.setIfInBounds_toArray, List.set_cons_zero, List.set_cons_succ]) <;> rfl) : wpAnyH P md ops Q S (fuel + 1) listed { tmps := t, defers := df } w :=
 skipD i d hi hd hr hw hS (by rw [hl, ht]; exact h)
end
end Go.Proofs.YtbhenelehhiakaaGreat
namespace Go.Proofs.YtbhenelehhiakaaGreat
open Go.RowKit
noncomputable def vecReg (k : Nat) : Code := (Tryz.f7.body.bind (regAt k)).getD .skip
set_option maxRecDepth 1000000 in
set_option maxHeartbeats 40000000 in
theorem vec_r1 (w W : World) (bv : Bool) (av av2 : Option Addr) (nv cv nv2 cv2 : Nat) (bw : Bool) (aw aw2 : Option Addr) (nw cw nw2 cw2 : Nat) (HP1 : Hid (Blk W (w.heap.size + 1) 80 #[.bool bv, .slice av nv cv, .slice av2 nv2 cv2, .bool bw, .slice aw nw cw, .slice aw2 nw2 cw2]))
  (x0 x1 x2 x6 x7 x8 x9 x10 x11 x12 x13 x14 x15 x16 x17 x18 x19 x20 x21 x22 x23 x24 x25 x26 x27 x28 x29 x30 x31 x32 x33 x34 x35 x36 x37 x38 x39 x40 x41 x42 x43 x44 x45 x46 x47 x48 x49 x50 x51 x52 x53 x54 x55 x56 x57 x58 x59 x60 x61 x62 x63 x64 x65 x66 x67 x68 x69 x70 x71 x72 x73 x74 x75 x76 x77 x78 x79 x80 x81 x82 x83 x84 x85 x86 x87 x88 x89 x90 x91 x92 x93 x94 x95 x96 x97 x98 x99 x100 x101 x102 x103 x104 x105 x106 x107 x108 x109 x110 x111 x112 x113 x114 x115 x116 x117 x118 x119 x120 x121 x122 x123 x124 x125 x126 x127 x128 x129 x130 x131 x132 x133 x134 x135 x136 x137 x138 x139 x140 x141 x142 x143 x144 x145 x146 x147 x148 x149 x150 x151 x152 x153 x154 x155 x156 x157 x158 x159 x160 x161 x162 x163 x164 x165 x166 x167 x168 x169 x170 x171 x172 x173 x174 x175 x176 x177 x178 x179 x180 x181 x182 x183 x184 x185 x186 x187 x188 x189 x190 x191 x192 x193 x194 x195 x196 x197 x198 x199 x200 x201 : Value) (Q : Exit → Act → World → Prop)
  (hQ : ∀ (qa qb : Nat) (v23 v24 v25 v26 : Value) (w' : World), qa ≠ qb → Hid (Blk w' qa 32 #[.bool bv, .slice av nv cv, .slice av2 nv2 cv2]) → Hid (Blk w' qb 32 #[.bool bw, .slice aw nw cw, .slice aw2 nw2 cw2]) → Hid (Ext W w') → Q .normal { tmps := #[x0, x1, x2, .pointer (some ⟨w.heap.size, 0, none⟩), .pointer (some ⟨w.heap.size + 1, 0, none⟩), .pointer (some ⟨w.heap.size + 1 + 1, 0, none⟩), x6, .pointer (some ⟨qa, 0, none⟩), .pointer (some ⟨qb, 0, none⟩), x9, x10, x11, x12, x13, x14, x15, x16, x17, x18, x19, x20, x21, x22, v23, v24, v25, v26, x27, x28, x29, x30, x31, x32, x33, x34, x35, x36, x37, x38, x39, x40, x41, x42, x43, x44, x45, x46, x47, x48, x49, x50, x51, x52, x53, x54, x55, x56, x57, x58, x59, x60, x61, x62, x63, x64, x65, x66, x67, x68, x69, x70, x71, x72, x73, x74, x75, x76, x77, x78, x79, x80, x81, x82, x83, x84, x85, x86, x87, x88, x89, x90, x91, x92, x93, x94, x95, x96, x97, x98, x99, x100, x101, x102, x103, x104, x105, x106, x107, x108, x109, x110, x111, x112, x113, x114, x115, x116, x117, x118, x119, x120, x121, x122, x123, x124, x125, x126, x127, x128, x129, x130, x131, x132, x133, x134, x135, x136, x137, x138, x139, x140, x141, x142, x143, x144, x145, x146, x147, x148, x149, x150, x151, x152, x153, x154, x155, x156, x157, x158, x159, x160, x161, x162, x163, x164, x165, x166, x167, x168, x169, x170, x171, x172, x173, x174, x175, x176, x177, x178, x179, x180, x181, x182, x183, x184, x185, x186, x187, x188, x189, x190, x191, x192, x193, x194, x195, x196, x197, x198, x199, x200, x201], defers := [] } w') :
  Code.wp Tryz.prog (vecReg 1) Q { tmps := #[x0, x1, x2, .pointer (some ⟨w.heap.size, 0, none⟩), .pointer (some ⟨w.heap.size + 1, 0, none⟩), .pointer (some ⟨w.heap.size + 1 + 1, 0, none⟩), x6, x7, x8, x9, x10, x11, x12, x13, x14, x15, x16, x17, x18, x19, x20, x21, x22, x23, x24, x25, x26, x27, x28, x29, x30, x31, x32, x33, x34, x35, x36, x37, x38, x39, x40, x41, x42, x43, x44, x45, x46, x47, x48, x49, x50, x51, x52, x53, x54, x55, x56, x57, x58, x59, x60, x61, x62, x63, x64, x65, x66, x67, x68, x69, x70, x71, x72, x73, x74, x75, x76, x77, x78, x79, x80, x81, x82, x83, x84, x85, x86, x87, x88, x89, x90, x91, x92, x93, x94, x95, x96, x97, x98, x99, x100, x101, x102, x103, x104, x105, x106, x107, x108, x109, x110, x111, x112, x113, x114, x115, x116, x117, x118, x119, x120, x121, x122, x123, x124, x125, x126, x127, x128, x129, x130, x131, x132, x133, x134, x135, x136, x137, x138, x139, x140, x141, x142, x143, x144, x145, x146, x147, x148, x149, x150, x151, x152, x153, x154, x155, x156, x157, x158, x159, x160, x161, x162, x163, x164, x165, x166, x167, x168, x169, x170, x171, x172, x173, x174, x175, x176, x177, x178, x179, x180, x181, x182, x183, x184, x185, x186, x187, x188, x189, x190, x191, x192, x193, x194, x195, x196, x197, x198, x199, x200, x201], defers := [] } W := by
 conv => arg 2; whnf
 have p1 := HP1.out
 skip
 replace p1_0 := p1.cell (i := 0) rfl
 replace p1_1 := p1.cell (i := 1) rfl
 replace p1_2 := p1.cell (i := 2) rfl
 replace p1_3 := p1.cell (i := 3) rfl
 replace p1_4 := p1.cell (i := 4) rfl
 replace p1_5 := p1.cell (i := 5) rfl
 have p1W := p1
 have hlt_p1 : w.heap.size + 1 < W.heap.size := p1.lt
 have hEd : Ext W W.drew := (Below.refl _ _).drew
 have hsd : W.heap.size ≤ W.drew.heap.size := hEd.size
 replace p1 := p1.ext hEd; replace p1_0 := p1.cell (i := 0) rfl; replace p1_1 := p1.cell (i := 1) rfl; replace p1_2 := p1.cell (i := 2) rfl; replace p1_3 := p1.cell (i := 3) rfl; replace p1_4 := p1.cell (i := 4) rfl; replace p1_5 := p1.cell (i := 5) rfl
 have hE0 := hEd
 clear hEd
 refine wp_region_noPanic ?_
 refine wp_region_held_drew (S := (fun w' => w'.cell? ⟨w.heap.size + 1, 0, none⟩ = some (.bool bv) ∧ w'.cell? ⟨w.heap.size + 1, 1, none⟩ = some (.slice av nv cv) ∧ w'.cell? ⟨w.heap.size + 1, 2, none⟩ = some (.slice av2 nv2 cv2) ∧ w'.cell? ⟨w.heap.size + 1, 3, none⟩ = some (.bool bw) ∧ w'.cell? ⟨w.heap.size + 1, 4, none⟩ = some (.slice aw nw cw) ∧ w'.cell? ⟨w.heap.size + 1, 5, none⟩ = some (.slice aw2 nw2 cw2))) (by as_aux_lemma => kernel_rfl) ⟨p1_0, p1_1, p1_2, p1_3, p1_4, p1_5⟩ (fun hHeld => ?_)
 refine takeY 0 23 hHeld ?_
 refine takeY 1 24 hHeld ?_
 refine takeY 2 25 hHeld ?_
 refine takeY 3 26 hHeld ?_
 skip
 refine wpAnyH_ready (rs := [4, 5]) (by as_aux_lemma => kernel_rfl) (by simp) ?_
 refine AllReadyH.cons rfl (fun Kc hKc => ?_) (AllReadyH.cons rfl (fun Kc hKc => ?_) AllReadyH.nil)
 rotate_left 1
 focus
  refine Eq.mpr (if_pos (by as_aux_lemma => kernel_rfl)) ?_
  go_simp
  have hE1 : Ext W (W.alloc (Obj.cells #[.bool false, .slice none 0 0, .slice none 0 0] 32)).drew := ((Below.refl _ _).alloc (Nat.le_refl _) _).drew
  have qb : Blk (W.alloc (Obj.cells #[.bool false, .slice none 0 0, .slice none 0 0] 32)).drew W.heap.size 32 #[.bool false, .slice none 0 0, .slice none 0 0] := Blk.new W 32 #[.bool false, .slice none 0 0, .slice none 0 0]
  replace hE0 := hE1
  have p1 := p1W.ext hE1
  replace p1_0 := p1.cell (i := 0) rfl
  replace p1_1 := p1.cell (i := 1) rfl
  replace p1_2 := p1.cell (i := 2) rfl
  replace p1_3 := p1.cell (i := 3) rfl
  replace p1_4 := p1.cell (i := 4) rfl
  replace p1_5 := p1.cell (i := 5) rfl
  have hs0 := hE1.size
  clear hE1
  refine hKc.out _ _ ⟨p1_0, p1_1, p1_2, p1_3, p1_4, p1_5⟩ (fun hHeld => ?_)
  clear hKc Kc
  try simp only [Act.put, List.setIfInBounds_toArray, List.set_cons_zero, List.set_cons_succ]
  have ltqB : W.heap.size < (W.alloc (Obj.cells #[.bool false, .slice none 0 0, .slice none 0 0] 32)).drew.heap.size := qb.lt
  generalize (W.alloc (Obj.cells #[.bool false, .slice none 0 0, .slice none 0 0] 32)).drew = v0 at *
  obtain ⟨qB, hqB⟩ : ∃ q, W.heap.size = q := ⟨_, rfl⟩
  have geqB : W.heap.size ≤ qB := Nat.le_of_eq hqB
  have leqB : qB ≤ W.heap.size := Nat.le_of_eq hqB.symm
  rw [hqB] at qb ⊢
  clear hqB
  skip
  replace qb_0 := qb.cell (i := 0) rfl
  replace qb_1 := qb.cell (i := 1) rfl
  replace qb_2 := qb.cell (i := 2) rfl
  replace qb_f0 := qb.free 0
  replace qb_f1 := qb.free 1
  replace qb_f2 := qb.free 2
  replace qb_lt := qb.lt
  skip
  refine stepD 4 rfl (by as_aux_lemma => kernel_rfl) (fun Kc hKc => ?_)
  refine Eq.mpr (if_pos (by as_aux_lemma => kernel_rfl)) ?_
  go_simp
  have hE1 : Ext v0 (v0.alloc (Obj.cells #[.bool false, .slice none 0 0, .slice none 0 0] 32)) := (Below.refl _ _).alloc (Nat.le_refl _) _
  have qa : Blk (v0.alloc (Obj.cells #[.bool false, .slice none 0 0, .slice none 0 0] 32)) v0.heap.size 32 #[.bool false, .slice none 0 0, .slice none 0 0] := Blk.new v0 32 #[.bool false, .slice none 0 0, .slice none 0 0]
  replace hE0 := Ext.trans hE0 hE1
  skip
  replace p1 := p1.ext hE1; replace p1_0 := p1.cell (i := 0) rfl; replace p1_1 := p1.cell (i := 1) rfl; replace p1_2 := p1.cell (i := 2) rfl; replace p1_3 := p1.cell (i := 3) rfl; replace p1_4 := p1.cell (i := 4) rfl; replace p1_5 := p1.cell (i := 5) rfl; replace qb := qb.ext hE1; replace qb_0 := qb.cell (i := 0) rfl; replace qb_1 := qb.cell (i := 1) rfl; replace qb_2 := qb.cell (i := 2) rfl; replace qb_f0 := qb.free 0; replace qb_f1 := qb.free 1; replace qb_f2 := qb.free 2; replace qb_lt := qb.lt
  have hs1 := hE1.size
  clear hE1
  refine hKc.out _ _ ⟨p1_0, p1_1, p1_2, p1_3, p1_4, p1_5⟩ (fun hHeld => ?_)
  clear hKc Kc
  try simp only [Act.put, List.setIfInBounds_toArray, List.set_cons_zero, List.set_cons_succ]
  have ltqA : v0.heap.size < (v0.alloc (Obj.cells #[.bool false, .slice none 0 0, .slice none 0 0] 32)).heap.size := qa.lt
  generalize (v0.alloc (Obj.cells #[.bool false, .slice none 0 0, .slice none 0 0] 32)) = v1 at *
  obtain ⟨qA, hqA⟩ : ∃ q, v0.heap.size = q := ⟨_, rfl⟩
  have geqA : v0.heap.size ≤ qA := Nat.le_of_eq hqA
  have leqA : qA ≤ v0.heap.size := Nat.le_of_eq hqA.symm
  rw [hqA] at qa ⊢
  clear hqA
  skip
  replace qa_0 := qa.cell (i := 0) rfl
  replace qa_1 := qa.cell (i := 1) rfl
  replace qa_2 := qa.cell (i := 2) rfl
  replace qa_f0 := qa.free 0
  replace qa_f1 := qa.free 1
  replace qa_f2 := qa.free 2
  replace qa_lt := qa.lt
  obtain ⟨wL, rfl⟩ : ∃ x : World, x = v1 := ⟨_, rfl⟩
 rotate_right 1
 focus
  refine Eq.mpr (if_pos (by as_aux_lemma => kernel_rfl)) ?_
  go_simp
  have hE1 : Ext W (W.alloc (Obj.cells #[.bool false, .slice none 0 0, .slice none 0 0] 32)).drew := ((Below.refl _ _).alloc (Nat.le_refl _) _).drew
  have qa : Blk (W.alloc (Obj.cells #[.bool false, .slice none 0 0, .slice none 0 0] 32)).drew W.heap.size 32 #[.bool false, .slice none 0 0, .slice none 0 0] := Blk.new W 32 #[.bool false, .slice none 0 0, .slice none 0 0]
  replace hE0 := hE1
  have p1 := p1W.ext hE1
  replace p1_0 := p1.cell (i := 0) rfl
  replace p1_1 := p1.cell (i := 1) rfl
  replace p1_2 := p1.cell (i := 2) rfl
  replace p1_3 := p1.cell (i := 3) rfl
  replace p1_4 := p1.cell (i := 4) rfl
  replace p1_5 := p1.cell (i := 5) rfl
  have hs0 := hE1.size
  clear hE1
  refine hKc.out _ _ ⟨p1_0, p1_1, p1_2, p1_3, p1_4, p1_5⟩ (fun hHeld => ?_)
  clear hKc Kc
  try simp only [Act.put, List.setIfInBounds_toArray, List.set_cons_zero, List.set_cons_succ]
  have ltqA : W.heap.size < (W.alloc (Obj.cells #[.bool false, .slice none 0 0, .slice none 0 0] 32)).drew.heap.size := qa.lt
  generalize (W.alloc (Obj.cells #[.bool false, .slice none 0 0, .slice none 0 0] 32)).drew = v0 at *
  obtain ⟨qA, hqA⟩ : ∃ q, W.heap.size = q := ⟨_, rfl⟩
  have geqA : W.heap.size ≤ qA := Nat.le_of_eq hqA
  have leqA : qA ≤ W.heap.size := Nat.le_of_eq hqA.symm
  rw [hqA] at qa ⊢
  clear hqA
  skip
  replace qa_0 := qa.cell (i := 0) rfl
  replace qa_1 := qa.cell (i := 1) rfl
  replace qa_2 := qa.cell (i := 2) rfl
  replace qa_f0 := qa.free 0
  replace qa_f1 := qa.free 1
  replace qa_f2 := qa.free 2
  replace qa_lt := qa.lt
  skip
  refine stepD 5 rfl (by as_aux_lemma => kernel_rfl) (fun Kc hKc => ?_)
  refine Eq.mpr (if_pos (by as_aux_lemma => kernel_rfl)) ?_
  go_simp
  have hE1 : Ext v0 (v0.alloc (Obj.cells #[.bool false, .slice none 0 0, .slice none 0 0] 32)) := (Below.refl _ _).alloc (Nat.le_refl _) _
  have qb : Blk (v0.alloc (Obj.cells #[.bool false, .slice none 0 0, .slice none 0 0] 32)) v0.heap.size 32 #[.bool false, .slice none 0 0, .slice none 0 0] := Blk.new v0 32 #[.bool false, .slice none 0 0, .slice none 0 0]
  replace hE0 := Ext.trans hE0 hE1
  skip
  replace p1 := p1.ext hE1; replace p1_0 := p1.cell (i := 0) rfl; replace p1_1 := p1.cell (i := 1) rfl; replace p1_2 := p1.cell (i := 2) rfl; replace p1_3 := p1.cell (i := 3) rfl; replace p1_4 := p1.cell (i := 4) rfl; replace p1_5 := p1.cell (i := 5) rfl; replace qa := qa.ext hE1; replace qa_0 := qa.cell (i := 0) rfl; replace qa_1 := qa.cell (i := 1) rfl; replace qa_2 := qa.cell (i := 2) rfl; replace qa_f0 := qa.free 0; replace qa_f1 := qa.free 1; replace qa_f2 := qa.free 2; replace qa_lt := qa.lt
  have hs1 := hE1.size
  clear hE1
  refine hKc.out _ _ ⟨p1_0, p1_1, p1_2, p1_3, p1_4, p1_5⟩ (fun hHeld => ?_)
  clear hKc Kc
  try simp only [Act.put, List.setIfInBounds_toArray, List.set_cons_zero, List.set_cons_succ]
  have ltqB : v0.heap.size < (v0.alloc (Obj.cells #[.bool false, .slice none 0 0, .slice none 0 0] 32)).heap.size := qb.lt
  generalize (v0.alloc (Obj.cells #[.bool false, .slice none 0 0, .slice none 0 0] 32)) = v1 at *
  obtain ⟨qB, hqB⟩ : ∃ q, v0.heap.size = q := ⟨_, rfl⟩
  have geqB : v0.heap.size ≤ qB := Nat.le_of_eq hqB
  have leqB : qB ≤ v0.heap.size := Nat.le_of_eq hqB.symm
  rw [hqB] at qb ⊢
  clear hqB
  skip
  replace qb_0 := qb.cell (i := 0) rfl
  replace qb_1 := qb.cell (i := 1) rfl
  replace qb_2 := qb.cell (i := 2) rfl
  replace qb_f0 := qb.free 0
  replace qb_f1 := qb.free 1
  replace qb_f2 := qb.free 2
  replace qb_lt := qb.lt
  obtain ⟨wL, rfl⟩ : ∃ x : World, x = v1 := ⟨_, rfl⟩
 all_goals
  have ne_p1_qA : w.heap.size + 1 ≠ qA := by omega
  have ne_p1_qB : w.heap.size + 1 ≠ qB := by omega
  have ne5 : qA ≠ qB := by omega
  have ne6 : qB ≠ qA := by omega
  skip
  skip
  refine stepD 6 rfl (by as_aux_lemma => kernel_rfl) (fun Kc hKc => ?_)
  refine Eq.mpr (if_pos (by as_aux_lemma => kernel_rfl)) ?_
  go_simp
  replace qa := qa.set 0 (.bool bv)
  replace p1 := p1.set_ne 0 (.bool bv) (show w.heap.size + 1 ≠ qA by omega)
  replace qb := qb.set_ne 0 (.bool bv) (show qB ≠ qA by omega)
  replace qa := qa.set 1 (.slice av nv cv)
  replace p1 := p1.set_ne 1 (.slice av nv cv) (show w.heap.size + 1 ≠ qA by omega)
  replace qb := qb.set_ne 1 (.slice av nv cv) (show qB ≠ qA by omega)
  replace qa := qa.set 2 (.slice av2 nv2 cv2)
  replace p1 := p1.set_ne 2 (.slice av2 nv2 cv2) (show w.heap.size + 1 ≠ qA by omega)
  replace qb := qb.set_ne 2 (.slice av2 nv2 cv2) (show qB ≠ qA by omega)
  have hKwS0 : ∀ bB_ : Nat, qA < bB_ → Kept bB_ wL ((((wL).setCell ⟨qA, 0, none⟩ (.bool bv)).setCell ⟨qA, 1, none⟩ (.slice av nv cv)).setCell ⟨qA, 2, none⟩ (.slice av2 nv2 cv2)) := fun bB_ h0 => (Kept.trans (kept_set _ _ _ h0) (Kept.trans (kept_set _ _ _ h0) (kept_set _ _ _ h0)))
  have hzwS0 : wL.heap.size ≤ ((((wL).setCell ⟨qA, 0, none⟩ (.bool bv)).setCell ⟨qA, 1, none⟩ (.slice av nv cv)).setCell ⟨qA, 2, none⟩ (.slice av2 nv2 cv2)).heap.size := by simp only [World.setCell, Array.size_modify]; exact Nat.le_refl _
  have hSwS0 : ∀ (nB_ : Nat) (uB_ : World), nB_ ≤ qA → Below nB_ uB_ wL → Below nB_ uB_ ((((wL).setCell ⟨qA, 0, none⟩ (.bool bv)).setCell ⟨qA, 1, none⟩ (.slice av nv cv)).setCell ⟨qA, 2, none⟩ (.slice av2 nv2 cv2)) := fun nB_ uB_ h0 hb => (Below.setCell (Below.setCell (Below.setCell hb (p := ⟨qA, 0, none⟩) h0 (.bool bv)) (p := ⟨qA, 1, none⟩) h0 (.slice av nv cv)) (p := ⟨qA, 2, none⟩) h0 (.slice av2 nv2 cv2))
  have hTwS0 : ∀ (bB_ : Nat) (uB_ : World), (qA < bB_ ∨ uB_.heap.size ≤ qA) → Kept bB_ uB_ wL → Kept bB_ uB_ ((((wL).setCell ⟨qA, 0, none⟩ (.bool bv)).setCell ⟨qA, 1, none⟩ (.slice av nv cv)).setCell ⟨qA, 2, none⟩ (.slice av2 nv2 cv2)) := fun bB_ uB_ h0 hb => (kept_step (kept_step (kept_step hb h0) h0) h0)
  replace qa : Blk ((((wL).setCell ⟨qA, 0, none⟩ (.bool bv)).setCell ⟨qA, 1, none⟩ (.slice av nv cv)).setCell ⟨qA, 2, none⟩ (.slice av2 nv2 cv2)) (qA) 32 #[.bool bv, .slice av nv cv, .slice av2 nv2 cv2] := qa
  generalize hgwS0 : (((wL).setCell ⟨qA, 0, none⟩ (.bool bv)).setCell ⟨qA, 1, none⟩ (.slice av nv cv)).setCell ⟨qA, 2, none⟩ (.slice av2 nv2 cv2) = wS0 at *
  clear hgwS0
  replace qa_0 := qa.cell (i := 0) rfl
  replace qa_1 := qa.cell (i := 1) rfl
  replace qa_2 := qa.cell (i := 2) rfl
  replace qa_f0 := qa.free 0
  replace qa_f1 := qa.free 1
  replace qa_f2 := qa.free 2
  replace qa_lt := qa.lt
  replace p1_0 := p1.cell (i := 0) rfl
  replace p1_1 := p1.cell (i := 1) rfl
  replace p1_2 := p1.cell (i := 2) rfl
  replace p1_3 := p1.cell (i := 3) rfl
  replace p1_4 := p1.cell (i := 4) rfl
  replace p1_5 := p1.cell (i := 5) rfl
  replace qb_0 := qb.cell (i := 0) rfl
  replace qb_1 := qb.cell (i := 1) rfl
  replace qb_2 := qb.cell (i := 2) rfl
  replace qb_f0 := qb.free 0
  replace qb_f1 := qb.free 1
  replace qb_f2 := qb.free 2
  replace qb_lt := qb.lt
  refine hKc.out _ _ ⟨p1_0, p1_1, p1_2, p1_3, p1_4, p1_5⟩ (fun hHeld => ?_)
  clear hKc Kc
  try simp only [Act.put, List.setIfInBounds_toArray, List.set_cons_zero, List.set_cons_succ]
  refine stepD 7 rfl (by as_aux_lemma => kernel_rfl) (fun Kc hKc => ?_)
  refine Eq.mpr (if_pos (by as_aux_lemma => kernel_rfl)) ?_
  go_simp
  replace qb := qb.set 0 (.bool bw)
  replace p1 := p1.set_ne 0 (.bool bw) (show w.heap.size + 1 ≠ qB by omega)
  replace qa := qa.set_ne 0 (.bool bw) (show qA ≠ qB by omega)
  replace qb := qb.set 1 (.slice aw nw cw)
  replace p1 := p1.set_ne 1 (.slice aw nw cw) (show w.heap.size + 1 ≠ qB by omega)
  replace qa := qa.set_ne 1 (.slice aw nw cw) (show qA ≠ qB by omega)
  replace qb := qb.set 2 (.slice aw2 nw2 cw2)
  replace p1 := p1.set_ne 2 (.slice aw2 nw2 cw2) (show w.heap.size + 1 ≠ qB by omega)
  replace qa := qa.set_ne 2 (.slice aw2 nw2 cw2) (show qA ≠ qB by omega)
  have hKwS1 : ∀ bB_ : Nat, qB < bB_ → Kept bB_ wS0 ((((wS0).setCell ⟨qB, 0, none⟩ (.bool bw)).setCell ⟨qB, 1, none⟩ (.slice aw nw cw)).setCell ⟨qB, 2, none⟩ (.slice aw2 nw2 cw2)) := fun bB_ h0 => (Kept.trans (kept_set _ _ _ h0) (Kept.trans (kept_set _ _ _ h0) (kept_set _ _ _ h0)))
  have hzwS1 : wS0.heap.size ≤ ((((wS0).setCell ⟨qB, 0, none⟩ (.bool bw)).setCell ⟨qB, 1, none⟩ (.slice aw nw cw)).setCell ⟨qB, 2, none⟩ (.slice aw2 nw2 cw2)).heap.size := by simp only [World.setCell, Array.size_modify]; exact Nat.le_refl _
  have hSwS1 : ∀ (nB_ : Nat) (uB_ : World), nB_ ≤ qB → Below nB_ uB_ wS0 → Below nB_ uB_ ((((wS0).setCell ⟨qB, 0, none⟩ (.bool bw)).setCell ⟨qB, 1, none⟩ (.slice aw nw cw)).setCell ⟨qB, 2, none⟩ (.slice aw2 nw2 cw2)) := fun nB_ uB_ h0 hb => (Below.setCell (Below.setCell (Below.setCell hb (p := ⟨qB, 0, none⟩) h0 (.bool bw)) (p := ⟨qB, 1, none⟩) h0 (.slice aw nw cw)) (p := ⟨qB, 2, none⟩) h0 (.slice aw2 nw2 cw2))
  have hTwS1 : ∀ (bB_ : Nat) (uB_ : World), (qB < bB_ ∨ uB_.heap.size ≤ qB) → Kept bB_ uB_ wS0 → Kept bB_ uB_ ((((wS0).setCell ⟨qB, 0, none⟩ (.bool bw)).setCell ⟨qB, 1, none⟩ (.slice aw nw cw)).setCell ⟨qB, 2, none⟩ (.slice aw2 nw2 cw2)) := fun bB_ uB_ h0 hb => (kept_step (kept_step (kept_step hb h0) h0) h0)
  replace qb : Blk ((((wS0).setCell ⟨qB, 0, none⟩ (.bool bw)).setCell ⟨qB, 1, none⟩ (.slice aw nw cw)).setCell ⟨qB, 2, none⟩ (.slice aw2 nw2 cw2)) (qB) 32 #[.bool bw, .slice aw nw cw, .slice aw2 nw2 cw2] := qb
  generalize hgwS1 : (((wS0).setCell ⟨qB, 0, none⟩ (.bool bw)).setCell ⟨qB, 1, none⟩ (.slice aw nw cw)).setCell ⟨qB, 2, none⟩ (.slice aw2 nw2 cw2) = wS1 at *
  clear hgwS1
  replace qb_0 := qb.cell (i := 0) rfl
  replace qb_1 := qb.cell (i := 1) rfl
  replace qb_2 := qb.cell (i := 2) rfl
  replace qb_f0 := qb.free 0
  replace qb_f1 := qb.free 1
  replace qb_f2 := qb.free 2
  replace qb_lt := qb.lt
  replace p1_0 := p1.cell (i := 0) rfl
  replace p1_1 := p1.cell (i := 1) rfl
  replace p1_2 := p1.cell (i := 2) rfl
  replace p1_3 := p1.cell (i := 3) rfl
  replace p1_4 := p1.cell (i := 4) rfl
  replace p1_5 := p1.cell (i := 5) rfl
  replace qa_0 := qa.cell (i := 0) rfl
  replace qa_1 := qa.cell (i := 1) rfl
  replace qa_2 := qa.cell (i := 2) rfl
  replace qa_f0 := qa.free 0
  replace qa_f1 := qa.free 1
  replace qa_f2 := qa.free 2
  replace qa_lt := qa.lt
  refine hKc.out _ _ ⟨p1_0, p1_1, p1_2, p1_3, p1_4, p1_5⟩ (fun hHeld => ?_)
  clear hKc Kc
  try simp only [Act.put, List.setIfInBounds_toArray, List.set_cons_zero, List.set_cons_succ]
  refine wpAnyH_done (by as_aux_lemma => kernel_rfl) ?_ _
  refine NoPanic.normal ?_
  replace hE0 := (hSwS1 _ _ (by omega) (hSwS0 _ _ (by omega) hE0))
  exact hQ qA qB _ _ _ _ _ ne5 (Lib.hid qa) (Lib.hid qb) (Lib.hid hE0)
set_option maxRecDepth 1000000 in
set_option maxHeartbeats 40000000 in
theorem vec_r8_1 (K : Nat) (hK : 16 * K + 16777216 ≤ 549755813888) (w9 : World) (bv : Bool) (av av2 : Option Addr) (nv cv nv2 cv2 : Nat) (v : Int × List Int) (lv : Nt) (xv : List It) (HV : Hid (RawV K w9 bv av nv cv av2 nv2 cv2 v.1 v.2 lv xv)) (a3 a4 : Option Addr) (c3 c4 : Nat) (HPV : Hid (RawV K w9 bv a3 nv c3 a4 nv2 c4 v.1 v.2 lv xv)) (hnv2 : nv2 ≤ 1048576) (bn : Bool) (an an2 : Option Addr) (nn cn nn2 cn2 : Nat) (s1 : Int) (HS1 : Hid (normVE v = s1)) (qn : List Rat) (HQN : Hid (frV v.1 v.2 = qn)) (HN : Hid (OkV w9 s1 bn an nn cn an2 nn2 cn2 qn)) (qa pp pn : Nat) (HA : Hid (Blk w9 qa 32 #[.bool bv, .slice av nv cv, .slice av2 nv2 cv2])) (HB : Hid (Blk w9 pp 32 #[.bool bv, .slice a3 nv c3, .slice a4 nv2 c4])) (HC : Hid (Blk w9 pn 32 #[.bool bn, .slice an nn cn, .slice an2 nn2 cn2])) (vm : Bool) (HVM : Hid (decide (v.1 ≠ 0) = vm))
  (x0 x1 x2 x3 x4 x5 x6 x8 x12 x13 x14 x15 x16 x17 x19 x20 x21 x22 x23 x24 x25 x26 x27 x28 x29 x30 x31 x32 x33 x34 x35 x36 x37 x38 x39 x40 x41 x42 x43 x44 x45 x46 x47 x48 x49 x50 x51 x52 x53 x54 x55 x56 x57 x58 x59 x60 x61 x62 x63 x64 x65 x66 x67 x68 x69 x70 x71 x72 x73 x74 x75 x76 x77 x78 x79 x80 x81 x82 x83 x84 x85 x86 x87 x88 x89 x90 x91 x92 x93 x94 x95 x96 x97 x98 x99 x100 x101 x102 x103 x104 x105 x106 x107 x108 x109 x110 x111 x112 x113 x114 x115 x116 x117 x118 x119 x120 x121 x122 x123 x124 x125 x126 x127 x128 x129 x130 x131 x132 x133 x134 x135 x136 x137 x138 x139 x140 x141 x142 x143 x144 x145 x146 x147 x148 x149 x150 x151 x152 x153 x154 x155 x156 x157 x158 x159 x160 x161 x162 x163 x164 x165 x166 x167 x168 x169 x170 x171 x172 x173 x174 x175 x176 x177 x178 x179 x180 x181 x182 x183 x184 x185 x186 x187 x188 x189 x190 x191 x192 x193 x194 x195 x196 x197 x198 x199 x200 x201 : Value) (Q : Exit → Act → World → Prop) (hQ : ∀ (v57 v58 v59 v60 v61 v62 v63 v64 v65 v66 v67 v68 v69 v70 v71 v72 v73 v74 v75 v76 v77 v78 v79 v80 v81 v82 v83 v84 v85 v86 : Value) (w' : World), Hid (Ext w9 w') → Q .normal { tmps := #[x0, x1, x2, x3, x4, x5, x6, .pointer (some ⟨qa, 0, none⟩), x8, .pointer (some ⟨pp, 0, none⟩), .pointer (some ⟨pn, 0, none⟩), .int .i64 s1, x12, x13, x14, x15, x16, x17, .bool vm, x19, x20, x21, x22, x23, x24, x25, x26, x27, x28, x29, x30, x31, x32, x33, x34, x35, x36, x37, x38, x39, x40, x41, x42, x43, x44, x45, x46, x47, x48, x49, x50, x51, x52, x53, x54, x55, x56, v57, v58, v59, v60, v61, v62, v63, v64, v65, v66, v67, v68, v69, v70, v71, v72, v73, v74, v75, v76, v77, v78, v79, v80, v81, v82, v83, v84, v85, v86, .bool false, x88, x89, x90, x91, x92, x93, x94, x95, x96, x97, x98, x99, x100, x101, x102, x103, x104, x105, x106, x107, x108, x109, x110, x111, x112, x113, x114, x115, x116, x117, x118, x119, x120, x121, x122, x123, x124, x125, x126, x127, x128, x129, x130, x131, x132, x133, x134, x135, x136, x137, x138, x139, x140, x141, x142, x143, x144, x145, x146, x147, x148, x149, x150, x151, x152, x153, x154, x155, x156, x157, x158, x159, x160, x161, x162, x163, x164, x165, x166, x167, x168, x169, x170, x171, x172, x173, x174, x175, x176, x177, x178, x179, x180, x181, x182, x183, x184, x185, x186, x187, x188, x189, x190, x191, x192, x193, x194, x195, x196, x197, x198, x199, x200, x201], defers := [] } w') (hv : v.1 ≠ 0) :
  Code.wp Tryz.prog (vecReg 8) Q { tmps := #[x0, x1, x2, x3, x4, x5, x6, .pointer (some ⟨qa, 0, none⟩), x8, .pointer (some ⟨pp, 0, none⟩), .pointer (some ⟨pn, 0, none⟩), .int .i64 s1, x12, x13, x14, x15, x16, x17, .bool vm, x19, x20, x21, x22, x23, x24, x25, x26, x27, x28, x29, x30, x31, x32, x33, x34, x35, x36, x37, x38, x39, x40, x41, x42, x43, x44, x45, x46, x47, x48, x49, x50, x51, x52, x53, x54, x55, x56, x57, x58, x59, x60, x61, x62, x63, x64, x65, x66, x67, x68, x69, x70, x71, x72, x73, x74, x75, x76, x77, x78, x79, x80, x81, x82, x83, x84, x85, x86, x87, x88, x89, x90, x91, x92, x93, x94, x95, x96, x97, x98, x99, x100, x101, x102, x103, x104, x105, x106, x107, x108, x109, x110, x111, x112, x113, x114, x115, x116, x117, x118, x119, x120, x121, x122, x123, x124, x125, x126, x127, x128, x129, x130, x131, x132, x133, x134, x135, x136, x137, x138, x139, x140, x141, x142, x143, x144, x145, x146, x147, x148, x149, x150, x151, x152, x153, x154, x155, x156, x157, x158, x159, x160, x161, x162, x163, x164, x165, x166, x167, x168, x169, x170, x171, x172, x173, x174, x175, x176, x177, x178, x179, x180, x181, x182, x183, x184, x185, x186, x187, x188, x189, x190, x191, x192, x193, x194, x195, x196, x197, x198, x199, x200, x201], defers := [] } w9 := by
 conv => arg 2; whnf
 have hE0 : Ext w9 w9.drew := (Below.refl _ _).drew
 obtain rfl : vm = true := by rw [← HVM.out]; exact decide_eq_true hv
 obtain rfl : s1 = 0 := by rw [← HS1.out]; unfold normVE; rw [if_neg hv]
 obtain ⟨rfl, hn1, hn2⟩ := HN.out.1 rfl
 replace hn1 := hn1.ext (Nat.le_refl _) hE0
 replace hn2 := hn2.ext (Nat.le_refl _) hE0
 have ua := HA.out.ext hE0
 have ub := HB.out.ext hE0
 have un := HC.out.ext hE0
 clear HA HB HC
 skip
 skip
 skip
 replace ua_0 := ua.cell (i := 0) rfl
 replace ua_1 := ua.cell (i := 1) rfl
 replace ua_2 := ua.cell (i := 2) rfl
 replace ub_0 := ub.cell (i := 0) rfl
 replace ub_1 := ub.cell (i := 1) rfl
 replace ub_2 := ub.cell (i := 2) rfl
 replace un_0 := un.cell (i := 0) rfl
 replace un_1 := un.cell (i := 1) rfl
 replace un_2 := un.cell (i := 2) rfl
 refine wp_region_noPanic ?_
 refine wp_region_held_drew (S := (fun w' => w'.cell? ⟨qa, 0, none⟩ = some (.bool bv) ∧ w'.cell? ⟨qa, 1, none⟩ = some (.slice av nv cv) ∧ w'.cell? ⟨qa, 2, none⟩ = some (.slice av2 nv2 cv2) ∧ w'.cell? ⟨pp, 0, none⟩ = some (.bool bv) ∧ w'.cell? ⟨pp, 1, none⟩ = some (.slice a3 nv c3) ∧ w'.cell? ⟨pp, 2, none⟩ = some (.slice a4 nv2 c4) ∧ w'.cell? ⟨pn, 0, none⟩ = some (.bool false) ∧ w'.cell? ⟨pn, 1, none⟩ = some (.slice an nn cn) ∧ w'.cell? ⟨pn, 2, none⟩ = some (.slice an2 nn2 cn2))) (by as_aux_lemma => kernel_rfl) ⟨ua_0, ua_1, ua_2, ub_0, ub_1, ub_2, un_0, un_1, un_2⟩ (fun hHeld => ?_)
 refine takeY 0 57 hHeld ?_
 refine takeY 1 58 hHeld ?_
 refine takeY 2 59 hHeld ?_
 refine takeY 3 60 hHeld ?_
 refine takeY 4 61 hHeld ?_
 refine takeY 5 62 hHeld ?_
 refine takeY 6 63 hHeld ?_
 refine stepD 7 rfl (by as_aux_lemma => kernel_rfl) (fun Kc hKc => ?_)
 refine Eq.mpr (if_pos (by as_aux_lemma => kernel_rfl)) ?_
 go_simp
 refine (r11VecNorm_any K (by omega) _ bv av av2 nv cv nv2 cv2 v.1 v.2 (HV.out.ext hE0).vec hv (by omega) qn HQN).mono ?_; rintro e v8 hr; obtain ⟨a7, n7, c7, a8, n8, c8, rfl, g7, g8, hE1⟩ := hr.raw; replace ua := ua.ext hE1; replace ua_0 := ua.cell (i := 0) rfl; replace ua_1 := ua.cell (i := 1) rfl; replace ua_2 := ua.cell (i := 2) rfl; replace ub := ub.ext hE1; replace ub_0 := ub.cell (i := 0) rfl; replace ub_1 := ub.cell (i := 1) rfl; replace ub_2 := ub.cell (i := 2) rfl; replace un := un.ext hE1; replace un_0 := un.cell (i := 0) rfl; replace un_1 := un.cell (i := 1) rfl; replace un_2 := un.cell (i := 2) rfl; replace hn1 := hn1.ext (Nat.le_refl _) hE1; replace hn2 := hn2.ext (Nat.le_refl _) hE1; replace hE0 := Ext.trans hE0 hE1
 go_wp2_with fail
 refine hKc.out _ _ ⟨ua_0, ua_1, ua_2, ub_0, ub_1, ub_2, un_0, un_1, un_2⟩ (fun hHeld => ?_)
 clear hKc Kc
 try simp only [Act.put, List.setIfInBounds_toArray, List.set_cons_zero, List.set_cons_succ]
 refine stepD 8 rfl (by as_aux_lemma => kernel_rfl) (fun Kc hKc => ?_)
 refine Eq.mpr (if_pos (by as_aux_lemma => kernel_rfl)) ?_
 go_simp
 refine (sameVec_yes _ false an a7 an2 a8 nn cn n7 c7 nn2 cn2 n8 c8 _ _ hn1 g7 hn2 g8).mono ?_; rintro e v9 ⟨rfl, hE1⟩; clear hn1 hn2 g7 g8; replace ua := ua.ext hE1; replace ua_0 := ua.cell (i := 0) rfl; replace ua_1 := ua.cell (i := 1) rfl; replace ua_2 := ua.cell (i := 2) rfl; replace ub := ub.ext hE1; replace ub_0 := ub.cell (i := 0) rfl; replace ub_1 := ub.cell (i := 1) rfl; replace ub_2 := ub.cell (i := 2) rfl; replace un := un.ext hE1; replace un_0 := un.cell (i := 0) rfl; replace un_1 := un.cell (i := 1) rfl; replace un_2 := un.cell (i := 2) rfl; replace hE0 := Ext.trans hE0 hE1
 go_wp2_with fail
 refine hKc.out _ _ ⟨ua_0, ua_1, ua_2, ub_0, ub_1, ub_2, un_0, un_1, un_2⟩ (fun hHeld => ?_)
 clear hKc Kc
 try simp only [Act.put, List.setIfInBounds_toArray, List.set_cons_zero, List.set_cons_succ]
 refine takeY 9 66 hHeld ?_
 refine takeY 10 67 hHeld ?_
 refine takeY 11 68 hHeld ?_
 refine takeY 12 69 hHeld ?_
 refine takeY 13 70 hHeld ?_
 refine takeY 14 71 hHeld ?_
 refine takeY 15 72 hHeld ?_
 refine passY 16 73 hHeld ?_
 refine passY 17 74 hHeld ?_
 refine passY 18 75 hHeld ?_
 refine passY 19 76 hHeld ?_
 refine skipY 20 77 hHeld ?_
 refine passY 21 78 hHeld ?_
 refine passY 22 79 hHeld ?_
 refine takeY 23 80 hHeld ?_
 refine takeY 24 81 hHeld ?_
 refine takeY 25 82 hHeld ?_
 refine takeY 26 83 hHeld ?_
 refine takeY 27 84 hHeld ?_
 refine stepD 28 rfl (by as_aux_lemma => kernel_rfl) (fun Kc hKc => ?_)
 refine Eq.mpr (if_pos (by as_aux_lemma => kernel_rfl)) ?_
 go_simp
 refine (sameVec_yes _ bv a3 av a4 av2 nv c3 nv cv nv2 c4 nv2 cv2 lv xv (HPV.out.ext hE0).1 (HV.out.ext hE0).1 (HPV.out.ext hE0).2.1 (HV.out.ext hE0).2.1).mono ?_; rintro e v9 ⟨rfl, hE1⟩; replace ua := ua.ext hE1; replace ua_0 := ua.cell (i := 0) rfl; replace ua_1 := ua.cell (i := 1) rfl; replace ua_2 := ua.cell (i := 2) rfl; replace ub := ub.ext hE1; replace ub_0 := ub.cell (i := 0) rfl; replace ub_1 := ub.cell (i := 1) rfl; replace ub_2 := ub.cell (i := 2) rfl; replace un := un.ext hE1; replace un_0 := un.cell (i := 0) rfl; replace un_1 := un.cell (i := 1) rfl; replace un_2 := un.cell (i := 2) rfl; replace hE0 := Ext.trans hE0 hE1
 go_wp2_with fail
 refine hKc.out _ _ ⟨ua_0, ua_1, ua_2, ub_0, ub_1, ub_2, un_0, un_1, un_2⟩ (fun hHeld => ?_)
 clear hKc Kc
 try simp only [Act.put, List.setIfInBounds_toArray, List.set_cons_zero, List.set_cons_succ]
 refine takeY 29 86 hHeld ?_
 refine takeY 30 87 hHeld ?_
 refine wpAnyH_done (by as_aux_lemma => kernel_rfl) ?_ _
 refine NoPanic.normal ?_
 exact hQ _ _ _ _ _ _ _ _ _ _ _ _ _ _ _ _ _ _ _ _ _ _ _ _ _ _ _ _ _ _ _ (Lib.hid hE0)
set_option maxRecDepth 1000000 in
set_option maxHeartbeats 40000000 in
theorem vec_r8_2 (K : Nat) (hK : 16 * K + 16777216 ≤ 549755813888) (w9 : World) (bv : Bool) (av av2 : Option Addr) (nv cv nv2 cv2 : Nat) (v : Int × List Int) (lv : Nt) (xv : List It) (HV : Hid (RawV K w9 bv av nv cv av2 nv2 cv2 v.1 v.2 lv xv)) (a3 a4 : Option Addr) (c3 c4 : Nat) (HPV : Hid (RawV K w9 bv a3 nv c3 a4 nv2 c4 v.1 v.2 lv xv)) (hnv2 : nv2 ≤ 1048576) (bn : Bool) (an an2 : Option Addr) (nn cn nn2 cn2 : Nat) (s1 : Int) (HS1 : Hid (normVE v = s1)) (qn : List Rat) (HQN : Hid (frV v.1 v.2 = qn)) (HN : Hid (OkV w9 s1 bn an nn cn an2 nn2 cn2 qn)) (qa pp pn : Nat) (HA : Hid (Blk w9 qa 32 #[.bool bv, .slice av nv cv, .slice av2 nv2 cv2])) (HB : Hid (Blk w9 pp 32 #[.bool bv, .slice a3 nv c3, .slice a4 nv2 c4])) (HC : Hid (Blk w9 pn 32 #[.bool bn, .slice an nn cn, .slice an2 nn2 cn2])) (vm : Bool) (HVM : Hid (decide (v.1 ≠ 0) = vm))
  (x0 x1 x2 x3 x4 x5 x6 x8 x12 x13 x14 x15 x16 x17 x19 x20 x21 x22 x23 x24 x25 x26 x27 x28 x29 x30 x31 x32 x33 x34 x35 x36 x37 x38 x39 x40 x41 x42 x43 x44 x45 x46 x47 x48 x49 x50 x51 x52 x53 x54 x55 x56 x57 x58 x59 x60 x61 x62 x63 x64 x65 x66 x67 x68 x69 x70 x71 x72 x73 x74 x75 x76 x77 x78 x79 x80 x81 x82 x83 x84 x85 x86 x87 x88 x89 x90 x91 x92 x93 x94 x95 x96 x97 x98 x99 x100 x101 x102 x103 x104 x105 x106 x107 x108 x109 x110 x111 x112 x113 x114 x115 x116 x117 x118 x119 x120 x121 x122 x123 x124 x125 x126 x127 x128 x129 x130 x131 x132 x133 x134 x135 x136 x137 x138 x139 x140 x141 x142 x143 x144 x145 x146 x147 x148 x149 x150 x151 x152 x153 x154 x155 x156 x157 x158 x159 x160 x161 x162 x163 x164 x165 x166 x167 x168 x169 x170 x171 x172 x173 x174 x175 x176 x177 x178 x179 x180 x181 x182 x183 x184 x185 x186 x187 x188 x189 x190 x191 x192 x193 x194 x195 x196 x197 x198 x199 x200 x201 : Value) (Q : Exit → Act → World → Prop) (hQ : ∀ (v57 v58 v59 v60 v61 v62 v63 v64 v65 v66 v67 v68 v69 v70 v71 v72 v73 v74 v75 v76 v77 v78 v79 v80 v81 v82 v83 v84 v85 v86 : Value) (w' : World), Hid (Ext w9 w') → Q .normal { tmps := #[x0, x1, x2, x3, x4, x5, x6, .pointer (some ⟨qa, 0, none⟩), x8, .pointer (some ⟨pp, 0, none⟩), .pointer (some ⟨pn, 0, none⟩), .int .i64 s1, x12, x13, x14, x15, x16, x17, .bool vm, x19, x20, x21, x22, x23, x24, x25, x26, x27, x28, x29, x30, x31, x32, x33, x34, x35, x36, x37, x38, x39, x40, x41, x42, x43, x44, x45, x46, x47, x48, x49, x50, x51, x52, x53, x54, x55, x56, v57, v58, v59, v60, v61, v62, v63, v64, v65, v66, v67, v68, v69, v70, v71, v72, v73, v74, v75, v76, v77, v78, v79, v80, v81, v82, v83, v84, v85, v86, .bool false, x88, x89, x90, x91, x92, x93, x94, x95, x96, x97, x98, x99, x100, x101, x102, x103, x104, x105, x106, x107, x108, x109, x110, x111, x112, x113, x114, x115, x116, x117, x118, x119, x120, x121, x122, x123, x124, x125, x126, x127, x128, x129, x130, x131, x132, x133, x134, x135, x136, x137, x138, x139, x140, x141, x142, x143, x144, x145, x146, x147, x148, x149, x150, x151, x152, x153, x154, x155, x156, x157, x158, x159, x160, x161, x162, x163, x164, x165, x166, x167, x168, x169, x170, x171, x172, x173, x174, x175, x176, x177, x178, x179, x180, x181, x182, x183, x184, x185, x186, x187, x188, x189, x190, x191, x192, x193, x194, x195, x196, x197, x198, x199, x200, x201], defers := [] } w') (hv : v.1 = 0) :
  Code.wp Tryz.prog (vecReg 8) Q { tmps := #[x0, x1, x2, x3, x4, x5, x6, .pointer (some ⟨qa, 0, none⟩), x8, .pointer (some ⟨pp, 0, none⟩), .pointer (some ⟨pn, 0, none⟩), .int .i64 s1, x12, x13, x14, x15, x16, x17, .bool vm, x19, x20, x21, x22, x23, x24, x25, x26, x27, x28, x29, x30, x31, x32, x33, x34, x35, x36, x37, x38, x39, x40, x41, x42, x43, x44, x45, x46, x47, x48, x49, x50, x51, x52, x53, x54, x55, x56, x57, x58, x59, x60, x61, x62, x63, x64, x65, x66, x67, x68, x69, x70, x71, x72, x73, x74, x75, x76, x77, x78, x79, x80, x81, x82, x83, x84, x85, x86, x87, x88, x89, x90, x91, x92, x93, x94, x95, x96, x97, x98, x99, x100, x101, x102, x103, x104, x105, x106, x107, x108, x109, x110, x111, x112, x113, x114, x115, x116, x117, x118, x119, x120, x121, x122, x123, x124, x125, x126, x127, x128, x129, x130, x131, x132, x133, x134, x135, x136, x137, x138, x139, x140, x141, x142, x143, x144, x145, x146, x147, x148, x149, x150, x151, x152, x153, x154, x155, x156, x157, x158, x159, x160, x161, x162, x163, x164, x165, x166, x167, x168, x169, x170, x171, x172, x173, x174, x175, x176, x177, x178, x179, x180, x181, x182, x183, x184, x185, x186, x187, x188, x189, x190, x191, x192, x193, x194, x195, x196, x197, x198, x199, x200, x201], defers := [] } w9 := by
 conv => arg 2; whnf
 have hE0 : Ext w9 w9.drew := (Below.refl _ _).drew
 obtain rfl : vm = false := by rw [← HVM.out]; exact decide_eq_false (fun h => h hv)
 obtain rfl : s1 = 6 := by rw [← HS1.out]; unfold normVE; rw [if_pos hv]
 obtain ⟨rfl, rfl, rfl, rfl, rfl, rfl, rfl⟩ := HN.out.2 (by decide)
 have ua := HA.out.ext hE0
 have ub := HB.out.ext hE0
 have un := HC.out.ext hE0
 clear HA HB HC
 skip
 skip
 skip
 replace ua_0 := ua.cell (i := 0) rfl
 replace ua_1 := ua.cell (i := 1) rfl
 replace ua_2 := ua.cell (i := 2) rfl
 replace ub_0 := ub.cell (i := 0) rfl
 replace ub_1 := ub.cell (i := 1) rfl
 replace ub_2 := ub.cell (i := 2) rfl
 replace un_0 := un.cell (i := 0) rfl
 replace un_1 := un.cell (i := 1) rfl
 replace un_2 := un.cell (i := 2) rfl
 refine wp_region_noPanic ?_
 refine wp_region_held_drew (S := (fun w' => w'.cell? ⟨qa, 0, none⟩ = some (.bool bv) ∧ w'.cell? ⟨qa, 1, none⟩ = some (.slice av nv cv) ∧ w'.cell? ⟨qa, 2, none⟩ = some (.slice av2 nv2 cv2) ∧ w'.cell? ⟨pp, 0, none⟩ = some (.bool bv) ∧ w'.cell? ⟨pp, 1, none⟩ = some (.slice a3 nv c3) ∧ w'.cell? ⟨pp, 2, none⟩ = some (.slice a4 nv2 c4) ∧ w'.cell? ⟨pn, 0, none⟩ = some (.bool false) ∧ w'.cell? ⟨pn, 1, none⟩ = some (.slice none 0 0) ∧ w'.cell? ⟨pn, 2, none⟩ = some (.slice none 0 0))) (by as_aux_lemma => kernel_rfl) ⟨ua_0, ua_1, ua_2, ub_0, ub_1, ub_2, un_0, un_1, un_2⟩ (fun hHeld => ?_)
 refine takeY 0 57 hHeld ?_
 refine takeY 1 58 hHeld ?_
 refine passY 2 59 hHeld ?_
 refine passY 3 60 hHeld ?_
 refine passY 4 61 hHeld ?_
 refine passY 5 62 hHeld ?_
 refine passY 6 63 hHeld ?_
 refine skipY 7 64 hHeld ?_
 refine skipY 8 65 hHeld ?_
 refine passY 9 66 hHeld ?_
 refine passY 10 67 hHeld ?_
 refine takeY 11 68 hHeld ?_
 refine takeY 12 69 hHeld ?_
 refine takeY 13 70 hHeld ?_
 refine takeY 14 71 hHeld ?_
 refine takeY 15 72 hHeld ?_
 refine takeY 16 73 hHeld ?_
 refine takeY 17 74 hHeld ?_
 refine takeY 18 75 hHeld ?_
 refine takeY 19 76 hHeld ?_
 refine stepD 20 rfl (by as_aux_lemma => kernel_rfl) (fun Kc hKc => ?_)
 refine Eq.mpr (if_pos (by as_aux_lemma => kernel_rfl)) ?_
 go_simp
 refine (noVec_yes _).mono ?_; rintro e v9 ⟨rfl, hE1⟩; replace ua := ua.ext hE1; replace ua_0 := ua.cell (i := 0) rfl; replace ua_1 := ua.cell (i := 1) rfl; replace ua_2 := ua.cell (i := 2) rfl; replace ub := ub.ext hE1; replace ub_0 := ub.cell (i := 0) rfl; replace ub_1 := ub.cell (i := 1) rfl; replace ub_2 := ub.cell (i := 2) rfl; replace un := un.ext hE1; replace un_0 := un.cell (i := 0) rfl; replace un_1 := un.cell (i := 1) rfl; replace un_2 := un.cell (i := 2) rfl; replace hE0 := Ext.trans hE0 hE1
 go_wp2_with fail
 refine hKc.out _ _ ⟨ua_0, ua_1, ua_2, ub_0, ub_1, ub_2, un_0, un_1, un_2⟩ (fun hHeld => ?_)
 clear hKc Kc
 try simp only [Act.put, List.setIfInBounds_toArray, List.set_cons_zero, List.set_cons_succ]
 refine takeY 21 78 hHeld ?_
 refine takeY 22 79 hHeld ?_
 refine takeY 23 80 hHeld ?_
 refine takeY 24 81 hHeld ?_
 refine takeY 25 82 hHeld ?_
 refine takeY 26 83 hHeld ?_
 refine takeY 27 84 hHeld ?_
 refine stepD 28 rfl (by as_aux_lemma => kernel_rfl) (fun Kc hKc => ?_)
 refine Eq.mpr (if_pos (by as_aux_lemma => kernel_rfl)) ?_
 go_simp
 refine (sameVec_yes _ bv a3 av a4 av2 nv c3 nv cv nv2 c4 nv2 cv2 lv xv (HPV.out.ext hE0).1 (HV.out.ext hE0).1 (HPV.out.ext hE0).2.1 (HV.out.ext hE0).2.1).mono ?_; rintro e v9 ⟨rfl, hE1⟩; replace ua := ua.ext hE1; replace ua_0 := ua.cell (i := 0) rfl; replace ua_1 := ua.cell (i := 1) rfl; replace ua_2 := ua.cell (i := 2) rfl; replace ub := ub.ext hE1; replace ub_0 := ub.cell (i := 0) rfl; replace ub_1 := ub.cell (i := 1) rfl; replace ub_2 := ub.cell (i := 2) rfl; replace un := un.ext hE1; replace un_0 := un.cell (i := 0) rfl; replace un_1 := un.cell (i := 1) rfl; replace un_2 := un.cell (i := 2) rfl; replace hE0 := Ext.trans hE0 hE1
 go_wp2_with fail
 refine hKc.out _ _ ⟨ua_0, ua_1, ua_2, ub_0, ub_1, ub_2, un_0, un_1, un_2⟩ (fun hHeld => ?_)
 clear hKc Kc
 try simp only [Act.put, List.setIfInBounds_toArray, List.set_cons_zero, List.set_cons_succ]
 refine takeY 29 86 hHeld ?_
 refine takeY 30 87 hHeld ?_
 refine wpAnyH_done (by as_aux_lemma => kernel_rfl) ?_ _
 refine NoPanic.normal ?_
 exact hQ _ _ _ _ _ _ _ _ _ _ _ _ _ _ _ _ _ _ _ _ _ _ _ _ _ _ _ _ _ _ _ (Lib.hid hE0)
set_option maxRecDepth 1000000 in
set_option maxHeartbeats 40000000 in
theorem vec_r8 (K : Nat) (hK : 16 * K + 16777216 ≤ 549755813888) (w9 : World) (bv : Bool) (av av2 : Option Addr) (nv cv nv2 cv2 : Nat) (v : Int × List Int) (lv : Nt) (xv : List It) (HV : Hid (RawV K w9 bv av nv cv av2 nv2 cv2 v.1 v.2 lv xv)) (a3 a4 : Option Addr) (c3 c4 : Nat) (HPV : Hid (RawV K w9 bv a3 nv c3 a4 nv2 c4 v.1 v.2 lv xv)) (hnv2 : nv2 ≤ 1048576) (bn : Bool) (an an2 : Option Addr) (nn cn nn2 cn2 : Nat) (s1 : Int) (HS1 : Hid (normVE v = s1)) (qn : List Rat) (HQN : Hid (frV v.1 v.2 = qn)) (HN : Hid (OkV w9 s1 bn an nn cn an2 nn2 cn2 qn)) (qa pp pn : Nat) (HA : Hid (Blk w9 qa 32 #[.bool bv, .slice av nv cv, .slice av2 nv2 cv2])) (HB : Hid (Blk w9 pp 32 #[.bool bv, .slice a3 nv c3, .slice a4 nv2 c4])) (HC : Hid (Blk w9 pn 32 #[.bool bn, .slice an nn cn, .slice an2 nn2 cn2])) (vm : Bool) (HVM : Hid (decide (v.1 ≠ 0) = vm))
  (x0 x1 x2 x3 x4 x5 x6 x8 x12 x13 x14 x15 x16 x17 x19 x20 x21 x22 x23 x24 x25 x26 x27 x28 x29 x30 x31 x32 x33 x34 x35 x36 x37 x38 x39 x40 x41 x42 x43 x44 x45 x46 x47 x48 x49 x50 x51 x52 x53 x54 x55 x56 x57 x58 x59 x60 x61 x62 x63 x64 x65 x66 x67 x68 x69 x70 x71 x72 x73 x74 x75 x76 x77 x78 x79 x80 x81 x82 x83 x84 x85 x86 x87 x88 x89 x90 x91 x92 x93 x94 x95 x96 x97 x98 x99 x100 x101 x102 x103 x104 x105 x106 x107 x108 x109 x110 x111 x112 x113 x114 x115 x116 x117 x118 x119 x120 x121 x122 x123 x124 x125 x126 x127 x128 x129 x130 x131 x132 x133 x134 x135 x136 x137 x138 x139 x140 x141 x142 x143 x144 x145 x146 x147 x148 x149 x150 x151 x152 x153 x154 x155 x156 x157 x158 x159 x160 x161 x162 x163 x164 x165 x166 x167 x168 x169 x170 x171 x172 x173 x174 x175 x176 x177 x178 x179 x180 x181 x182 x183 x184 x185 x186 x187 x188 x189 x190 x191 x192 x193 x194 x195 x196 x197 x198 x199 x200 x201 : Value) (Q : Exit → Act → World → Prop) (hQ : ∀ (v57 v58 v59 v60 v61 v62 v63 v64 v65 v66 v67 v68 v69 v70 v71 v72 v73 v74 v75 v76 v77 v78 v79 v80 v81 v82 v83 v84 v85 v86 : Value) (w' : World), Hid (Ext w9 w') → Q .normal { tmps := #[x0, x1, x2, x3, x4, x5, x6, .pointer (some ⟨qa, 0, none⟩), x8, .pointer (some ⟨pp, 0, none⟩), .pointer (some ⟨pn, 0, none⟩), .int .i64 s1, x12, x13, x14, x15, x16, x17, .bool vm, x19, x20, x21, x22, x23, x24, x25, x26, x27, x28, x29, x30, x31, x32, x33, x34, x35, x36, x37, x38, x39, x40, x41, x42, x43, x44, x45, x46, x47, x48, x49, x50, x51, x52, x53, x54, x55, x56, v57, v58, v59, v60, v61, v62, v63, v64, v65, v66, v67, v68, v69, v70, v71, v72, v73, v74, v75, v76, v77, v78, v79, v80, v81, v82, v83, v84, v85, v86, .bool false, x88, x89, x90, x91, x92, x93, x94, x95, x96, x97, x98, x99, x100, x101, x102, x103, x104, x105, x106, x107, x108, x109, x110, x111, x112, x113, x114, x115, x116, x117, x118, x119, x120, x121, x122, x123, x124, x125, x126, x127, x128, x129, x130, x131, x132, x133, x134, x135, x136, x137, x138, x139, x140, x141, x142, x143, x144, x145, x146, x147, x148, x149, x150, x151, x152, x153, x154, x155, x156, x157, x158, x159, x160, x161, x162, x163, x164, x165, x166, x167, x168, x169, x170, x171, x172, x173, x174, x175, x176, x177, x178, x179, x180, x181, x182, x183, x184, x185, x186, x187, x188, x189, x190, x191, x192, x193, x194, x195, x196, x197, x198, x199, x200, x201], defers := [] } w') :
  Code.wp Tryz.prog (vecReg 8) Q { tmps := #[x0, x1, x2, x3, x4, x5, x6, .pointer (some ⟨qa, 0, none⟩), x8, .pointer (some ⟨pp, 0, none⟩), .pointer (some ⟨pn, 0, none⟩), .int .i64 s1, x12, x13, x14, x15, x16, x17, .bool vm, x19, x20, x21, x22, x23, x24, x25, x26, x27, x28, x29, x30, x31, x32, x33, x34, x35, x36, x37, x38, x39, x40, x41, x42, x43, x44, x45, x46, x47, x48, x49, x50, x51, x52, x53, x54, x55, x56, x57, x58, x59, x60, x61, x62, x63, x64, x65, x66, x67, x68, x69, x70, x71, x72, x73, x74, x75, x76, x77, x78, x79, x80, x81, x82, x83, x84, x85, x86, x87, x88, x89, x90, x91, x92, x93, x94, x95, x96, x97, x98, x99, x100, x101, x102, x103, x104, x105, x106, x107, x108, x109, x110, x111, x112, x113, x114, x115, x116, x117, x118, x119, x120, x121, x122, x123, x124, x125, x126, x127, x128, x129, x130, x131, x132, x133, x134, x135, x136, x137, x138, x139, x140, x141, x142, x143, x144, x145, x146, x147, x148, x149, x150, x151, x152, x153, x154, x155, x156, x157, x158, x159, x160, x161, x162, x163, x164, x165, x166, x167, x168, x169, x170, x171, x172, x173, x174, x175, x176, x177, x178, x179, x180, x181, x182, x183, x184, x185, x186, x187, x188, x189, x190, x191, x192, x193, x194, x195, x196, x197, x198, x199, x200, x201], defers := [] } w9 := by
 by_cases hv : v.1 = 0
 ·exact vec_r8_2 K hK w9 bv av av2 nv cv nv2 cv2 v lv xv HV a3 a4 c3 c4 HPV hnv2 bn an an2 nn cn nn2 cn2 s1 HS1 qn HQN HN qa pp pn HA HB HC vm HVM x0 x1 x2 x3 x4 x5 x6 x8 x12 x13 x14 x15 x16 x17 x19 x20 x21 x22 x23 x24 x25 x26 x27 x28 x29 x30 x31 x32 x33 x34 x35 x36 x37 x38 x39 x40 x41 x42 x43 x44 x45 x46 x47 x48 x49 x50 x51 x52 x53 x54 x55 x56 x57 x58 x59 x60 x61 x62 x63 x64 x65 x66 x67 x68 x69 x70 x71 x72 x73 x74 x75 x76 x77 x78 x79 x80 x81 x82 x83 x84 x85 x86 x87 x88 x89 x90 x91 x92 x93 x94 x95 x96 x97 x98 x99 x100 x101 x102 x103 x104 x105 x106 x107 x108 x109 x110 x111 x112 x113 x114 x115 x116 x117 x118 x119 x120 x121 x122 x123 x124 x125 x126 x127 x128 x129 x130 x131 x132 x133 x134 x135 x136 x137 x138 x139 x140 x141 x142 x143 x144 x145 x146 x147 x148 x149 x150 x151 x152 x153 x154 x155 x156 x157 x158 x159 x160 x161 x162 x163 x164 x165 x166 x167 x168 x169 x170 x171 x172 x173 x174 x175 x176 x177 x178 x179 x180 x181 x182 x183 x184 x185 x186 x187 x188 x189 x190 x191 x192 x193 x194 x195 x196 x197 x198 x199 x200 x201 Q hQ hv
 ·exact vec_r8_1 K hK w9 bv av av2 nv cv nv2 cv2 v lv xv HV a3 a4 c3 c4 HPV hnv2 bn an an2 nn cn nn2 cn2 s1 HS1 qn HQN HN qa pp pn HA HB HC vm HVM x0 x1 x2 x3 x4 x5 x6 x8 x12 x13 x14 x15 x16 x17 x19 x20 x21 x22 x23 x24 x25 x26 x27 x28 x29 x30 x31 x32 x33 x34 x35 x36 x37 x38 x39 x40 x41 x42 x43 x44 x45 x46 x47 x48 x49 x50 x51 x52 x53 x54 x55 x56 x57 x58 x59 x60 x61 x62 x63 x64 x65 x66 x67 x68 x69 x70 x71 x72 x73 x74 x75 x76 x77 x78 x79 x80 x81 x82 x83 x84 x85 x86 x87 x88 x89 x90 x91 x92 x93 x94 x95 x96 x97 x98 x99 x100 x101 x102 x103 x104 x105 x106 x107 x108 x109 x110 x111 x112 x113 x114 x115 x116 x117 x118 x119 x120 x121 x122 x123 x124 x125 x126 x127 x128 x129 x130 x131 x132 x133 x134 x135 x136 x137 x138 x139 x140 x141 x142 x143 x144 x145 x146 x147 x148 x149 x150 x151 x152 x153 x154 x155 x156 x157 x158 x159 x160 x161 x162 x163 x164 x165 x166 x167 x168 x169 x170 x171 x172 x173 x174 x175 x176 x177 x178 x179 x180 x181 x182 x183 x184 x185 x186 x187 x188 x189 x190 x191 x192 x193 x194 x195 x196 x197 x198 x199 x200 x201 Q hQ hv
end Go.Proofs.YtbhenelehhiakaaGreat
