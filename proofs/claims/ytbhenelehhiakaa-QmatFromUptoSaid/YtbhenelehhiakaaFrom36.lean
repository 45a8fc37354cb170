/-
  qmat: At.
-/
import Derived.Test.YtbhenelehhiakaaFrom34
import Derived.Test.YtbhenelehhiakaaFrom35
set_option linter.unusedVariables false
set_option linter.unusedSimpArgs false
namespace Go.Proofs.Ytbhenelehhiakaa
open Go.RowKit Go.Shelf

set_option maxRecDepth 100000 in
set_option maxHeartbeats 4000000 in
theorem at_err (K : Nat) (hK : K ≤ 8796093022208) (w : World) (b : Bool) (a a2 : Option Addr) (n c n2 c2 : Nat) (d : Int) (zss : List (List Int)) (h : MatS K w b a n c a2 n2 c2 d zss) (hs : Hid (checkE d zss = 0)) (hn2 : n2 ≤ 1099511627776) (hrow : Hid (∀ zs ∈ zss, zs.length ≤ 1099511627776)) (m : Nat) (hm : Hid (colsOf zss = m)) (i k : Int) (hik : i < 0 ∨ (n2 : Int) ≤ i ∨ k < 0 ∨ (m : Int) ≤ k) :
    Calls Try.prog 29 #[.agg #[.bool b, .slice a n c, .slice a2 n2 c2], .int .i64 i, .int .i64 k] w (RRatErr w 1) := by
  go_enter Try.func29, Try.ntmps29
  go_wp2_with fail
  have p0 := Blk.new w 30 #[.bool b, .slice a n c, .slice a2 n2 c2]
  have r := Blk.new (w.alloc (Obj.cells #[.bool b, .slice a n c, .slice a2 n2 c2] 30)) 62 #[.bool false, .slice none 0 0, .bool false, .slice none 0 0]
  replace p0 := p0.ext ((Below.refl _ _).alloc (Nat.le_refl _) (Obj.cells #[.bool false, .slice none 0 0, .bool false, .slice none 0 0] 62))
  have hEW : Ext w ((w.alloc (Obj.cells #[.bool b, .slice a n c, .slice a2 n2 c2] 30)).alloc (Obj.cells #[.bool false, .slice none 0 0, .bool false, .slice none 0 0] 62)) := (((Below.refl _ w).alloc (by simp) _).alloc (by simp) _)
  generalize hgW : (w.alloc (Obj.cells #[.bool b, .slice a n c, .slice a2 n2 c2] 30)).alloc (Obj.cells #[.bool false, .slice none 0 0, .bool false, .slice none 0 0] 62) = W at *
  clear hgW
  simp only [World.size_alloc] at r
  have p0_ne_r : ¬ w.heap.size = w.heap.size + 1 := by omega
  have r_ne_p0 : ¬ w.heap.size + 1 = w.heap.size := by omega
  replace p0_0 := p0.cell (i := 0) rfl
  replace p0_1 := p0.cell (i := 1) rfl
  replace p0_2 := p0.cell (i := 2) rfl
  replace r_0 := r.cell (i := 0) rfl
  replace r_1 := r.cell (i := 1) rfl
  replace r_2 := r.cell (i := 2) rfl
  replace r_3 := r.cell (i := 3) rfl
  replace r_f0 := r.free 0
  replace r_f1 := r.free 1
  replace r_f2 := r.free 2
  replace r_f3 := r.free 3
  replace r_lt := r.lt
  refine (qSize_ok K hK W b a a2 n c n2 c2 d zss (h.ext hEW) hs hn2 hrow m hm).mono ?_
  rintro e w1 ⟨rfl, hE1⟩
  replace r := r.ext hE1; replace r_0 := r.cell (i := 0) rfl; replace r_1 := r.cell (i := 1) rfl; replace r_2 := r.cell (i := 2) rfl; replace r_3 := r.cell (i := 3) rfl; replace r_f0 := r.free 0; replace r_f1 := r.free 1; replace r_f2 := r.free 2; replace r_f3 := r.free 3; replace r_lt := r.lt
  have hE0 := Ext.trans hEW hE1
  have HF : Hid (RRatErr w 1 (.returned (.tuple #[.agg #[.bool false, .slice none 0 0, .bool false, .slice none 0 0], .int .i64 1])) ((((w1.setCell ⟨w.heap.size + 1, 0, none⟩ (.bool false)).setCell ⟨w.heap.size + 1, 1, none⟩ (.slice none 0 0)).setCell ⟨w.heap.size + 1, 2, none⟩ (.bool false)).setCell ⟨w.heap.size + 1, 3, none⟩ (.slice none 0 0))) := Lib.hid ⟨rfl, ext_set4 hE0 _ _ _ _ (by omega)⟩
  clear hEW hE1 h hE0 p0 p0_0 p0_1 p0_2
  by_cases g1 : i < 0
  · skip
    have r2 : Blk (((((w1).setCell ⟨w.heap.size + 1, 0, none⟩ (.bool false)).setCell ⟨w.heap.size + 1, 1, none⟩ (.slice none 0 0)).setCell ⟨w.heap.size + 1, 2, none⟩ (.bool false)).setCell ⟨w.heap.size + 1, 3, none⟩ (.slice none 0 0)) _ _ #[.bool false, .slice none 0 0, .bool false, .slice none 0 0] := ((((r).set 0 (.bool false)).set 1 (.slice none 0 0)).set 2 (.bool false)).set 3 (.slice none 0 0)
    have hr0 := r2.cell (i := 0) rfl
    have hr1 := r2.cell (i := 1) rfl
    have hr2 := r2.cell (i := 2) rfl
    have hr3 := r2.cell (i := 3) rfl
    go_wp2_with fail
    exact bodyPost_ret (v := .tuple #[.agg #[.bool false, .slice none 0 0, .bool false, .slice none 0 0], .int .i64 1]) (by simp [results, Try.results29, go_sem, hr0, hr1, hr2, hr3]) rfl HF.out
  by_cases g2 : (n2 : Int) ≤ i
  · skip
    have r2 : Blk (((((w1).setCell ⟨w.heap.size + 1, 0, none⟩ (.bool false)).setCell ⟨w.heap.size + 1, 1, none⟩ (.slice none 0 0)).setCell ⟨w.heap.size + 1, 2, none⟩ (.bool false)).setCell ⟨w.heap.size + 1, 3, none⟩ (.slice none 0 0)) _ _ #[.bool false, .slice none 0 0, .bool false, .slice none 0 0] := ((((r).set 0 (.bool false)).set 1 (.slice none 0 0)).set 2 (.bool false)).set 3 (.slice none 0 0)
    have hr0 := r2.cell (i := 0) rfl
    have hr1 := r2.cell (i := 1) rfl
    have hr2 := r2.cell (i := 2) rfl
    have hr3 := r2.cell (i := 3) rfl
    go_wp2_with fail
    exact bodyPost_ret (v := .tuple #[.agg #[.bool false, .slice none 0 0, .bool false, .slice none 0 0], .int .i64 1]) (by simp [results, Try.results29, go_sem, hr0, hr1, hr2, hr3]) rfl HF.out
  by_cases g3 : k < 0
  · skip
    have r2 : Blk (((((w1).setCell ⟨w.heap.size + 1, 0, none⟩ (.bool false)).setCell ⟨w.heap.size + 1, 1, none⟩ (.slice none 0 0)).setCell ⟨w.heap.size + 1, 2, none⟩ (.bool false)).setCell ⟨w.heap.size + 1, 3, none⟩ (.slice none 0 0)) _ _ #[.bool false, .slice none 0 0, .bool false, .slice none 0 0] := ((((r).set 0 (.bool false)).set 1 (.slice none 0 0)).set 2 (.bool false)).set 3 (.slice none 0 0)
    have hr0 := r2.cell (i := 0) rfl
    have hr1 := r2.cell (i := 1) rfl
    have hr2 := r2.cell (i := 2) rfl
    have hr3 := r2.cell (i := 3) rfl
    go_wp2_with fail
    exact bodyPost_ret (v := .tuple #[.agg #[.bool false, .slice none 0 0, .bool false, .slice none 0 0], .int .i64 1]) (by simp [results, Try.results29, go_sem, hr0, hr1, hr2, hr3]) rfl HF.out
  have g4 : (m : Int) ≤ k := by omega
  clear hik
  have r2 : Blk (((((w1).setCell ⟨w.heap.size + 1, 0, none⟩ (.bool false)).setCell ⟨w.heap.size + 1, 1, none⟩ (.slice none 0 0)).setCell ⟨w.heap.size + 1, 2, none⟩ (.bool false)).setCell ⟨w.heap.size + 1, 3, none⟩ (.slice none 0 0)) _ _ #[.bool false, .slice none 0 0, .bool false, .slice none 0 0] := ((((r).set 0 (.bool false)).set 1 (.slice none 0 0)).set 2 (.bool false)).set 3 (.slice none 0 0)
  have hr0 := r2.cell (i := 0) rfl
  have hr1 := r2.cell (i := 1) rfl
  have hr2 := r2.cell (i := 2) rfl
  have hr3 := r2.cell (i := 3) rfl
  go_wp2_with fail
  exact bodyPost_ret (v := .tuple #[.agg #[.bool false, .slice none 0 0, .bool false, .slice none 0 0], .int .i64 1]) (by simp [results, Try.results29, go_sem, hr0, hr1, hr2, hr3]) rfl HF.out

set_option maxRecDepth 100000 in
set_option maxHeartbeats 8000000 in
theorem at_any (K : Nat) (hK : K ≤ 8796093022208) (w : World) (b : Bool) (a a2 : Option Addr) (n c n2 c2 : Nat) (d : Int) (zss : List (List Int)) (h : MatS K w b a n c a2 n2 c2 d zss) (hs : Hid (checkE d zss = 0)) (hd : 0 < d) (hn2 : n2 ≤ 1099511627776) (hrow : Hid (∀ zs ∈ zss, zs.length ≤ 1099511627776)) (m : Nat) (hm : Hid (colsOf zss = m)) (i k : Nat) (hi : i < n2) (hk : k < m) (zs : List Int) (hzs : Hid (zss[i]? = some zs)) (z : Int) (hz : Hid (zs[k]? = some z)) (q : Rat) (hq : Hid (ratv z d = q)) :
    Calls Try.prog 29 #[.agg #[.bool b, .slice a n c, .slice a2 n2 c2], .int .i64 (i : Int), .int .i64 (k : Int)] w (RRatOk w q) := by
  go_enter Try.func29, Try.ntmps29
  go_wp2_with fail
  have p0 := Blk.new w 30 #[.bool b, .slice a n c, .slice a2 n2 c2]
  have r := Blk.new (w.alloc (Obj.cells #[.bool b, .slice a n c, .slice a2 n2 c2] 30)) 62 #[.bool false, .slice none 0 0, .bool false, .slice none 0 0]
  replace p0 := p0.ext ((Below.refl _ _).alloc (Nat.le_refl _) (Obj.cells #[.bool false, .slice none 0 0, .bool false, .slice none 0 0] 62))
  have hEW : Ext w ((w.alloc (Obj.cells #[.bool b, .slice a n c, .slice a2 n2 c2] 30)).alloc (Obj.cells #[.bool false, .slice none 0 0, .bool false, .slice none 0 0] 62)) := (((Below.refl _ w).alloc (by simp) _).alloc (by simp) _)
  generalize hgW : (w.alloc (Obj.cells #[.bool b, .slice a n c, .slice a2 n2 c2] 30)).alloc (Obj.cells #[.bool false, .slice none 0 0, .bool false, .slice none 0 0] 62) = W at *
  clear hgW
  simp only [World.size_alloc] at r
  have p0_ne_r : ¬ w.heap.size = w.heap.size + 1 := by omega
  have r_ne_p0 : ¬ w.heap.size + 1 = w.heap.size := by omega
  replace p0_0 := p0.cell (i := 0) rfl
  replace p0_1 := p0.cell (i := 1) rfl
  replace p0_2 := p0.cell (i := 2) rfl
  replace r_0 := r.cell (i := 0) rfl
  replace r_1 := r.cell (i := 1) rfl
  replace r_2 := r.cell (i := 2) rfl
  replace r_3 := r.cell (i := 3) rfl
  replace r_f0 := r.free 0
  replace r_f1 := r.free 1
  replace r_f2 := r.free 2
  replace r_f3 := r.free 3
  replace r_lt := r.lt
  refine (qSize_ok K hK W b a a2 n c n2 c2 d zss (h.ext hEW) hs hn2 hrow m hm).mono ?_
  rintro e w1 ⟨rfl, hE1⟩
  replace p0 := p0.ext hE1; replace p0_0 := p0.cell (i := 0) rfl; replace p0_1 := p0.cell (i := 1) rfl; replace p0_2 := p0.cell (i := 2) rfl; replace r := r.ext hE1; replace r_0 := r.cell (i := 0) rfl; replace r_1 := r.cell (i := 1) rfl; replace r_2 := r.cell (i := 2) rfl; replace r_3 := r.cell (i := 3) rfl; replace r_f0 := r.free 0; replace r_f1 := r.free 1; replace r_f2 := r.free 2; replace r_f3 := r.free 3; replace r_lt := r.lt
  have hE0 := Ext.trans hEW hE1
  obtain ⟨l0, h1, h2, h3, h4⟩ := h
  obtain ⟨b5, o5, a5, n5, c5, zs', rfl, hb5, hzs', hc5, hZ⟩ := Sl.getRow h4 hi
  have hzz := hzs.out
  rw [hzs'] at hzz
  cases hzz
  have hn5 : n5 = m := by rw [← hZ.len, ← hm.out]; exact evenB_all (checkE_zero hs.out).2 _ (List.mem_of_getElem? hzs')
  subst hn5
  obtain ⟨b7, o7, s7, a7, n7, c7, l7, z', rfl, hb7, hz7, hc8, hc9, h7, hi7, hn7⟩ := hZ.getInt hk
  have hzz := hz.out
  rw [hz7] at hzz
  cases hzz
  have H2 := Lib.hid h2
  have H7 := Lib.hid hi7
  have hW1 : w.heap.size + 1 < w1.heap.size := r_lt
  have hn5a : ¬ b5 = w.heap.size + 1 := by omega
  have hn5b : ¬ w.heap.size + 1 = b5 := by omega
  have hn7a : ¬ b7 = w.heap.size + 1 := by omega
  have hn7b : ¬ w.heap.size + 1 = b7 := by omega
  replace hc5 := cellE hE0 hc5
  replace hc8 := cellE hE0 hc8
  replace hc9 := cellE hE0 hc9
  replace h1 := h1.ext (Nat.le_refl _) hE0
  replace h7 := h7.ext (Nat.le_refl _) hE0
  clear hEW hE1 h4 hzs' hz7 h2 hi7 hZ
  go_wp2_with fail
  have hEd : Ext w1 w1.drew := (Below.refl _ _).drew
  replace hc5 := cellE hEd hc5
  replace hc8 := cellE hEd hc8
  replace hc9 := cellE hEd hc9
  replace h1 := h1.ext (Nat.le_refl _) hEd
  replace h7 := h7.ext (Nat.le_refl _) hEd
  skip
  replace p0 := p0.ext hEd; replace p0_0 := p0.cell (i := 0) rfl; replace p0_1 := p0.cell (i := 1) rfl; replace p0_2 := p0.cell (i := 2) rfl; replace r := r.ext hEd; replace r_0 := r.cell (i := 0) rfl; replace r_1 := r.cell (i := 1) rfl; replace r_2 := r.cell (i := 2) rfl; replace r_3 := r.cell (i := 3) rfl; replace r_f0 := r.free 0; replace r_f1 := r.free 1; replace r_f2 := r.free 2; replace r_f3 := r.free 3; replace r_lt := r.lt
  replace hE0 := Ext.trans hE0 hEd
  have hik0 : (i : Int) < n2 := by omega
  have hkk0 : (k : Int) < n5 := by omega
  go_region_held3 (fun w' => w'.cell? ⟨b5, o5 + i, none⟩ = some (.slice (some ⟨b7, o7, none⟩) n5 c5) ∧ w'.cell? ⟨b7, o7 + k * 2, none⟩ = some (.bool s7) ∧ w'.cell? ⟨b7, o7 + k * 2 + 1, none⟩ = some (.slice a7 n7 c7) ∧ w'.cell? ⟨w.heap.size, 0, none⟩ = some (.bool b) ∧ w'.cell? ⟨w.heap.size, 1, none⟩ = some (.slice a n c) ∧ w'.cell? ⟨w.heap.size, 2, none⟩ = some (.slice (some ⟨b5, o5, none⟩) n2 c2)) (first | exact ⟨hc5, hc8, hc9, p0_0, p0_1, p0_2⟩ | go_keep)
    (first | (go_at_call 68; (with_reducible refine (ratMake_pos s7 b w1.drew a7 a n7 c7 n c l7 l0 _ d q h7 h1 (by omega) (by omega) H7 H2 hd hq).mono ?_); rintro e w5 ⟨a8, n8, c8, a9, n9, c9, rfl, h8, h9, hE5⟩; replace hc5 := cellE hE5 hc5; replace hc8 := cellE hE5 hc8; replace hc9 := cellE hE5 hc9; replace hE0 := Ext.trans hE0 hE5; replace p0 := p0.ext hE5; replace p0_0 := p0.cell (i := 0) rfl; replace p0_1 := p0.cell (i := 1) rfl; replace p0_2 := p0.cell (i := 2) rfl; replace r := r.ext hE5; replace r_0 := r.cell (i := 0) rfl; replace r_1 := r.cell (i := 1) rfl; replace r_2 := r.cell (i := 2) rfl; replace r_3 := r.cell (i := 3) rfl; replace r_f0 := r.free 0; replace r_f1 := r.free 1; replace r_f2 := r.free 2; replace r_f3 := r.free 3; replace r_lt := r.lt))
  have hWd : w.heap.size + 1 < w1.drew.heap.size := hW1
  have HF : Hid (RRatOk w q (.returned (.tuple #[.agg #[.bool (decide (q.num < 0)), .slice a8 n8 c8, .bool false, .slice a9 n9 c9], .int .i64 0])) ((((w5.setCell ⟨w.heap.size + 1, 0, none⟩ (.bool (decide (q.num < 0)))).setCell ⟨w.heap.size + 1, 1, none⟩ (.slice a8 n8 c8)).setCell ⟨w.heap.size + 1, 2, none⟩ (.bool false)).setCell ⟨w.heap.size + 1, 3, none⟩ (.slice a9 n9 c9))) :=
    Lib.hid ⟨a8, n8, c8, a9, n9, c9, rfl, (h8.mono (Nat.le_refl _) (kept_set4 _ _ _ _ _ hWd)).mono (by omega) (Kept.refl _ _), (h9.mono (Nat.le_refl _) (kept_set4 _ _ _ _ _ hWd)).mono (by omega) (Kept.refl _ _), ext_set4 hE0 _ _ _ _ (by omega)⟩
  clear h8 h9 hE0 hE5 h7 h1 h3 hc5 hc8 hc9 p0 p0_0 p0_1 p0_2
  generalize decide (q.num < 0) = sq at *
  have r2 : Blk (((((w5).setCell ⟨w.heap.size + 1, 0, none⟩ (.bool sq)).setCell ⟨w.heap.size + 1, 1, none⟩ (.slice a8 n8 c8)).setCell ⟨w.heap.size + 1, 2, none⟩ (.bool false)).setCell ⟨w.heap.size + 1, 3, none⟩ (.slice a9 n9 c9)) _ _ #[.bool sq, .slice a8 n8 c8, .bool false, .slice a9 n9 c9] := ((((r).set 0 (.bool sq)).set 1 (.slice a8 n8 c8)).set 2 (.bool false)).set 3 (.slice a9 n9 c9)
  have hr0 := r2.cell (i := 0) rfl
  have hr1 := r2.cell (i := 1) rfl
  have hr2 := r2.cell (i := 2) rfl
  have hr3 := r2.cell (i := 3) rfl
  go_wp2_with fail
  exact bodyPost_ret (v := .tuple #[.agg #[.bool sq, .slice a8 n8 c8, .bool false, .slice a9 n9 c9], .int .i64 0]) (by simp [results, Try.results29, go_sem, hr0, hr1, hr2, hr3]) rfl HF.out
end Go.Proofs.Ytbhenelehhiakaa
