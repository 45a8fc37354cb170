/-
  qmat: Norm, checks, size.
-/
import Derived.Test.YtbhenelehhiakaaGreatSum28
set_option linter.unusedVariables false
set_option linter.unusedSimpArgs false
namespace Go.Proofs.YtbhenelehhiakaaGreat
open Go.RowKit

theorem intB_of_K {K B : Nat} (hK : K ≤ 8796093022208) {w : World} {a : Option Addr} {n c : Nat} {zss : List (List Int)} (h : Sl (rIntK K).slice B w a n c zss) : Sl rIntB.slice B w a n c zss :=
  h.weak (Nat.le_refl _) rfl fun _ _ ⟨a1, n1, c1, e, hz⟩ => ⟨a1, n1, c1, e, hz.weak (Nat.le_refl _) rfl fun _ _ ⟨b, a2, n2, c2, l, e2, h3, h4, h5⟩ => ⟨b, a2, n2, c2, l, e2, h3, h4, Nat.le_trans h5 hK⟩⟩

theorem checkE_zero {d : Int} {zss : List (List Int)} (h : checkE d zss = 0) : d ≠ 0 ∧ evenB zss = true := by
  unfold checkE at h
  by_cases hd : d = 0
  · rw [if_pos hd] at h; cases h
  · rw [if_neg hd] at h
    refine ⟨hd, ?_⟩
    cases he : evenB zss with
    | true => rfl
    | false => rw [he] at h; cases h

set_option maxHeartbeats 4000000 in
theorem qnorm_any (K : Nat) (hK : K ≤ 8796093022208) (w : World) (b : Bool) (a a2 : Option Addr) (n c n2 c2 : Nat) (d : Int) (zss : List (List Int)) (h : MatS K w b a n c a2 n2 c2 d zss) (hs : Hid (checkE d zss = 0)) (hn2 : n2 ≤ 1099511627776) (hrow : Hid (∀ zs ∈ zss, zs.length ≤ 1099511627776)) :
    Calls Tryz.prog 23 #[.agg #[.bool b, .slice a n c, .slice a2 n2 c2]] w (RMatOk w (madeDen d zss) (madeRows d zss)) := by
  go_enter Tryz.func23, Tryz.ntmps23
  go_wp2_with fail
  have p0 := Blk.new w 28 #[.bool b, .slice a n c, .slice a2 n2 c2]
  have r := Blk.new (w.alloc (Obj.cells #[.bool b, .slice a n c, .slice a2 n2 c2] 28)) 28 #[.bool false, .slice none 0 0, .slice none 0 0]
  replace p0 := p0.ext ((Below.refl _ _).alloc (Nat.le_refl _) (Obj.cells #[.bool false, .slice none 0 0, .slice none 0 0] 28))
  have hEW : Ext w ((w.alloc (Obj.cells #[.bool b, .slice a n c, .slice a2 n2 c2] 28)).alloc (Obj.cells #[.bool false, .slice none 0 0, .slice none 0 0] 28)) := (((Below.refl _ w).alloc (by simp) _).alloc (by simp) _)
  generalize hgW : (w.alloc (Obj.cells #[.bool b, .slice a n c, .slice a2 n2 c2] 28)).alloc (Obj.cells #[.bool false, .slice none 0 0, .slice none 0 0] 28) = W at *
  clear hgW
  simp only [World.size_alloc] at r
  have p0_ne_r : ¬ w.heap.size = w.heap.size + 1 := by omega
  have r_ne_p0 : ¬ w.heap.size + 1 = w.heap.size := by omega
  replace p0_0 := p0.cell (i := 0) rfl
  replace p0_1 := p0.cell (i := 1) rfl
  replace p0_2 := p0.cell (i := 2) rfl
  replace r_0 := r.cell (i := 0) rfl
  replace r_1 := r.cell (i := 1) rfl
  replace r_2 := r.cell (i := 2) rfl
  replace r_f0 := r.free 0
  replace r_f1 := r.free 1
  replace r_f2 := r.free 2
  replace r_lt := r.lt
  have hW : w.heap.size + 1 + 1 ≤ W.heap.size := r_lt
  refine (check_any K hK W b a a2 n c n2 c2 d zss (h.ext hEW) 0 hs).mono ?_
  rintro e w1 ⟨rfl, hE1⟩
  replace p0 := p0.ext hE1; replace p0_0 := p0.cell (i := 0) rfl; replace p0_1 := p0.cell (i := 1) rfl; replace p0_2 := p0.cell (i := 2) rfl; replace r := r.ext hE1; replace r_0 := r.cell (i := 0) rfl; replace r_1 := r.cell (i := 1) rfl; replace r_2 := r.cell (i := 2) rfl; replace r_f0 := r.free 0; replace r_f1 := r.free 1; replace r_f2 := r.free 2; replace r_lt := r.lt
  have hE0 := Ext.trans hEW hE1
  have hsz := hE1.size
  obtain ⟨l, h1, h2, h3, h4⟩ := h.ext hE0
  have HD := Lib.hid h2
  obtain ⟨xss, hG, hxz⟩ := grid_of (intB_of_K hK h4) hn2 hrow.out
  have HG := Lib.hid hG
  have HXZ := Lib.hid hxz
  have hd0 := (checkE_zero hs.out).1
  clear h2 h4 hG hxz h hEW hE1
  go_wp2_with fail
  refine (made_any w1 b a a2 n c n2 c2 l xss h1 HG.out (by omega) d HD hd0).mono ?_
  rintro e w5 ⟨a5, n5, c5, a6, n6, c6, rfl, h5, h6, hE5⟩
  rw [HXZ.out] at h5 h6 ⊢
  replace r := r.ext hE5; replace r_0 := r.cell (i := 0) rfl; replace r_1 := r.cell (i := 1) rfl; replace r_2 := r.cell (i := 2) rfl; replace r_f0 := r.free 0; replace r_f1 := r.free 1; replace r_f2 := r.free 2; replace r_lt := r.lt
  generalize madeDen d zss = de at *
  generalize madeRows d zss = zz at *
  have HF := Lib.hid (RMatOk.box (w := w) (r := w.heap.size + 1) (v0 := .bool (decide (de < 0))) (v1 := .slice a5 n5 c5) (v2 := .slice a6 n6 c6) (by omega) (show w.heap.size + 1 < w1.heap.size by omega) (Ext.trans hE0 hE5) h5 h6)
  clear h1 h5 h6 hE0 hE5 hd0
  generalize decide (de < 0) = sg at *
  have r2 := ((r.set 0 (.bool sg)).set 1 (.slice a5 n5 c5)).set 2 (.slice a6 n6 c6)
  have hr0 := r2.cell (i := 0) rfl
  have hr1 := r2.cell (i := 1) rfl
  have hr2 := r2.cell (i := 2) rfl
  go_wp2_with fail
  exact bodyPost_ret (v := .tuple #[.agg #[.bool sg, .slice a5 n5 c5, .slice a6 n6 c6], .int .i64 0]) (by simp [results, Tryz.results23, go_sem, hr0, hr1, hr2]) rfl HF.out

set_option maxHeartbeats 1000000 in
theorem qsize_any (K : Nat) (hK : K ≤ 8796093022208) (w : World) (b : Bool) (a a2 : Option Addr) (n c n2 c2 : Nat) (d : Int) (zss : List (List Int)) (h : MatS K w b a n c a2 n2 c2 d zss) (hn2 : n2 ≤ 1099511627776) (hrow : Hid (∀ zs ∈ zss, zs.length ≤ 1099511627776)) (m : Nat) (hm : Hid (colsOf zss = m)) :
    Calls Tryz.prog 81 #[.agg #[.bool b, .slice a n c, .slice a2 n2 c2]] w fun e w' => e = .returned (.tuple #[.int .i64 (n2 : Int), .int .i64 (m : Int)]) ∧ Ext w w' := by
  go_enter Tryz.func81, Tryz.ntmps81
  go_wp2_with fail
  have p0 := Blk.new w 28 #[.bool b, .slice a n c, .slice a2 n2 c2]
  have hEW : Ext w (w.alloc (Obj.cells #[.bool b, .slice a n c, .slice a2 n2 c2] 28)) := ((Below.refl _ w).alloc (by simp) _)
  generalize hgW : w.alloc (Obj.cells #[.bool b, .slice a n c, .slice a2 n2 c2] 28) = W at *
  clear hgW
  replace p0_0 := p0.cell (i := 0) rfl
  replace p0_1 := p0.cell (i := 1) rfl
  replace p0_2 := p0.cell (i := 2) rfl
  have hd : Ext W W.drew := (Below.refl _ _).drew
  have hE0 := Ext.trans hEW hd
  obtain ⟨l, h1, h2, h3, h4⟩ := h.ext hE0
  obtain ⟨xss, hG, hxz⟩ := grid_of (intB_of_K hK h4) hn2 hrow.out
  have HG := Lib.hid hG
  have HC : Hid (colsOf xss = m) := Lib.hid (by
    rw [← hm.out, ← hxz]
    cases xss with
    | nil => rfl
    | cons x l => simp [zssOf, colsOf])
  have HE := Lib.hid hE0
  replace p0 := p0.ext hd; replace p0_0 := p0.cell (i := 0) rfl; replace p0_1 := p0.cell (i := 1) rfl; replace p0_2 := p0.cell (i := 2) rfl
  clear h1 h2 h3 h4 hG hxz h hEW hd hE0
  go_region_held3 (fun w' => w'.cell? ⟨w.heap.size, 0, none⟩ = some (.bool b) ∧ w'.cell? ⟨w.heap.size, 1, none⟩ = some (.slice a n c) ∧ w'.cell? ⟨w.heap.size, 2, none⟩ = some (.slice a2 n2 c2)) (first | exact ⟨p0_0, p0_1, p0_2⟩ | go_keep)
    (first | (go_at_call 113; refine (gridCols_any W.drew _ a2 n2 c2 xss HG.out (Below.refl _ _)).mono ?_; rintro e w5 ⟨rfl, rfl⟩))
  all_goals
    rw [HC.out]
    go_wp2_with fail
    go_ret2
    exact ⟨rfl, HE.out⟩
end Go.Proofs.YtbhenelehhiakaaGreat
/-
  qmat: lists of matrices; checks.
-/
namespace Go.Proofs.YtbhenelehhiakaaGreat
open Go.RowKit

/-- a matrix as it lies -/
def rMatK (K : Nat) : Rd (Int × List (List Int)) where
  size := 3
  ok B w cs x := ∃ b a n c a2 n2 c2, cs = [.bool b, .slice a n c, .slice a2 n2 c2] ∧ ∃ l, NatS B w a n c l ∧ ival b l = x.1 ∧ n ≤ K ∧ Sl (rIntK K).slice B w a2 n2 c2 x.2
  len h := by obtain ⟨b, a, n, c, a2, n2, c2, h, _⟩ := h; rw [h]; rfl
  mono h hB hk := by
    obtain ⟨b, a, n, c, a2, n2, c2, h, l, h1, h2, h3, h4⟩ := h
    exact ⟨b, a, n, c, a2, n2, c2, h, l, h1.mono hB hk, h2, h3, h4.mono hB hk⟩

theorem Sl.getMat {K B : Nat} {w : World} {a : Option Addr} {n c : Nat} {xs : List (Int × List (List Int))} (h : Sl (rMatK K) B w a n c xs) {i : Nat} (hi : i < n) : ∃ b o s a1 n1 c1 a2 n2 c2 x, a = some ⟨b, o, none⟩ ∧ b < w.heap.size ∧ xs[i]? = some x ∧ w.cell? ⟨b, o + i * 3, none⟩ = some (.bool s) ∧ w.cell? ⟨b, o + i * 3 + 1, none⟩ = some (.slice a1 n1 c1) ∧ w.cell? ⟨b, o + i * 3 + 2, none⟩ = some (.slice a2 n2 c2) ∧ MatS K w s a1 n1 c1 a2 n2 c2 x.1 x.2 := by
  have hl : i < xs.length := by rw [h.len]; exact hi
  obtain ⟨b, o, cs, ha, ⟨s, a1, n1, c1, a2, n2, c2, rfl, l, h1, h2, h3, h4⟩, hc⟩ := h.at_ i hl
  exact ⟨b, o, s, a1, n1, c1, a2, n2, c2, _, ha, cel_lt (hc 0 (by simp)), List.getElem?_eq_getElem hl, (hc 0 (by simp)).cell, (hc 1 (by simp)).cell, (hc 2 (by simp)).cell, l, Sl.zero h1, h2, h3, Sl.zero h4⟩

/-- the first error -/
def checksE (ms : List (Int × List (List Int))) : Int := match ms with
  | [] => 0
  | m :: ms => if checkE m.1 m.2 = 0 then checksE ms else checkE m.1 m.2
theorem checksE_take (ms : List (Int × List (List Int))) : ∀ (i : Nat), (∀ j x, j < i → ms[j]? = some x → checkE x.1 x.2 = 0) → checksE ms = checksE (ms.drop i) := by
  induction ms with
  | nil => intro i _; simp
  | cons m ms ih =>
    intro i h
    cases i with
    | zero => rfl
    | succ i =>
      rw [List.drop_succ_cons, ← ih i (fun j x hj hx => h (j + 1) x (by omega) (by simpa using hx))]
      conv => lhs; unfold checksE
      rw [if_pos (h 0 m (by omega) rfl)]

set_option maxRecDepth 100000 in
set_option maxHeartbeats 2000000 in
theorem checks_any (K : Nat) (hK : K ≤ 8796093022208) (w : World) (a : Option Addr) (n c : Nat) (ms : List (Int × List (List Int))) (h : Sl (rMatK K) 0 w a n c ms) (s : Int) (hs : Hid (checksE ms = s)) :
    Calls Tryz.prog 82 #[.slice a n c] w fun e w' => e = .returned (.int .i64 s) ∧ Ext w w' := by
  have hmost := h.most
  have hcap := h.cap
  have HS := Lib.hid h
  have hl := Lib.hid h.len
  clear h
  go_enter Tryz.func82, Tryz.ntmps82
  go_wp2_with fail
  go_loopg [8] n (fun q vi wr => ∃ i : Nat, i ≤ n ∧ q = n - i ∧ vi = .int .i64 (i : Int) ∧ Hid (∀ j x, j < i → ms[j]? = some x → checkE x.1 x.2 = 0) ∧ Hid (Ext w wr))
  case atStart => exact ⟨0, Nat.zero_le _, by omega, rfl, Lib.hid (fun j _ hj => by omega), Lib.hid (Ext.refl _)⟩
  case round =>
    obtain ⟨i, hi, hq, rfl, HI, HE⟩ := hrel
    by_cases hin : i < n
    · obtain ⟨b5, o5, s5, a5, n5, c5, a6, n6, c6, x, rfl, hb5, hx, hc5, hc6, hc7, h5⟩ := HS.out.getMat hin
      replace hc5 := (HE.out.cell (p := ⟨b5, o5 + i * 3, none⟩) hb5).trans hc5
      replace hc6 := (HE.out.cell (p := ⟨b5, o5 + i * 3 + 1, none⟩) hb5).trans hc6
      replace hc7 := (HE.out.cell (p := ⟨b5, o5 + i * 3 + 2, none⟩) hb5).trans hc7
      have H5 := Lib.hid (h5.ext HE.out)
      have HX := Lib.hid hx
      clear hx h5
      go_wp2_with fail
      have y := Blk.new wr 28 #[.bool s5, .slice a5 n5 c5, .slice a6 n6 c6]
      have hEW2 : Ext wr (wr.alloc (Obj.cells #[.bool s5, .slice a5 n5 c5, .slice a6 n6 c6] 28)) := ((Below.refl _ wr).alloc (by simp) _)
      generalize hgW2 : wr.alloc (Obj.cells #[.bool s5, .slice a5 n5 c5, .slice a6 n6 c6] 28) = W2 at *
      clear hgW2
      replace y_0 := y.cell (i := 0) rfl
      replace y_1 := y.cell (i := 1) rfl
      replace y_2 := y.cell (i := 2) rfl
      have HEY := Lib.hid (Ext.trans HE.out hEW2)
      clear hc5 hc6 hc7
      obtain ⟨t, ht⟩ : ∃ t, checkE x.1 x.2 = t := ⟨_, rfl⟩
      have HT := Lib.hid ht
      refine (check_any K hK W2 s5 a5 a6 n5 c5 n6 c6 x.1 x.2 (H5.out.ext hEW2) t HT).mono ?_
      rintro e w3 ⟨rfl, hE3⟩
      have HE3 := Lib.hid (Ext.trans HEY.out hE3)
      clear ht hE3 hEW2 y y_0 y_1 y_2
      by_cases ht0 : t = 0
      · subst ht0
        go_wp2_with fail
        go_roundg (n - (i + 1))
        case measure => omega
        case rel => exact ⟨i + 1, by omega, rfl, by go_num, Lib.hid (fun j z hj hz => by
          by_cases hji : j < i
          · exact HI.out j z hji hz
          · obtain rfl : j = i := by omega
            rw [HX.out] at hz
            cases hz
            exact HT.out), HE3⟩
      · have hne : (t != 0) = true := by simpa using ht0
        have HF : Hid (s = t) := Lib.hid (by
          rw [← hs.out, checksE_take ms i HI.out]
          obtain ⟨h8, h9⟩ := List.getElem?_eq_some_iff.1 HX.out
          rw [List.drop_eq_getElem_cons h8, h9]
          unfold checksE
          rw [HT.out, if_neg ht0])
        clear ht0
        go_wp2_with fail
        go_ret
        exact ⟨by rw [HF.out]; rfl, HE3.out⟩
    · obtain rfl : i = n := by omega
      have HF : Hid (s = 0) := Lib.hid (by
        rw [← hs.out, checksE_take ms i HI.out, List.drop_of_length_le (by rw [hl.out]; exact Nat.le_refl _)]
        rfl)
      go_wp2_with fail
      go_ret
      exact ⟨by rw [HF.out]; rfl, HE.out⟩

/-! ### a row of integers that is made and written -/
theorem rIntK_stores {K B g : Nat} (vs : List Value) {w : World} {off : Nat} {cs : List Value} {z : Int} (h : (rIntK K).ok B w cs z) (hv : ∀ j, j < vs.length → NoWord w g (off + j)) : (rIntK K).ok B (stores w g off vs) cs z := by
  obtain ⟨b, a, n, c, l, e, h1, h2⟩ := h
  exact ⟨b, a, n, c, l, e, NatS.stores vs h1 hv, h2⟩

/-- one integer is written into a row -/
theorem Sl.setInt {K B : Nat} {w : World} {g n c : Nat} {xs : List Int} (h : Sl (rIntK K) B w (some ⟨g, 0, none⟩) n c xs) {k : Nat} (hk : k < n) {cs : List Value} {z : Int} (hz : (rIntK K).ok B w cs z) : Sl (rIntK K) B (stores w g (k * 2) cs) (some ⟨g, 0, none⟩) n c (xs.set k z) := by
  have hlen2 : cs.length = 2 := (rIntK K).len hz
  obtain ⟨bk, ok, csk, hgk, hqk, hck⟩ := h.at_ k (by rw [h.len]; exact hk)
  cases hgk
  have hl2 : csk.length = 2 := (rIntK K).len hqk
  have hcel : ∀ j, j < 2 → ∃ v, Cel B w g (k * 2 + j) v ∧ ∀ x : Int, v ≠ .int .u32 x := fun j hj => by
    have := hck j (by omega)
    rw [Nat.zero_add] at this
    refine ⟨_, this, ?_⟩
    obtain ⟨b, a, n, c, l, e, _⟩ := hqk
    subst e
    intro x
    match j, hj with
    | 0, _ => simp
    | 1, _ => simp
  have hnw : ∀ j, j < cs.length → NoWord w g (k * 2 + j) := fun j hj => by
    obtain ⟨v, h1, h2⟩ := hcel j (by omega)
    exact ⟨v, h1.cell, h2⟩
  refine ⟨by rw [List.length_set]; exact h.len, h.cap, h.most, h.nil, fun t ht => ?_⟩
  have ht2 : t < xs.length := by simpa using ht
  by_cases hte : t = k
  · subst hte
    refine ⟨g, 0, cs, rfl, ?_, fun j hj => ?_⟩
    · rw [List.getElem_set_self]; exact rIntK_stores cs hz hnw
    · have := cel_stores_at cs (fun j hj => by obtain ⟨v, h1, _⟩ := hcel j (by omega); exact ⟨v, h1⟩) j hj
      rw [Nat.zero_add]; exact this
  · obtain ⟨b2, o2, cs2, hg2, hq2, hc2⟩ := h.at_ t ht2
    cases hg2
    have hl3 : cs2.length = 2 := (rIntK K).len hq2
    refine ⟨g, 0, cs2, rfl, ?_, fun j hj => cel_stores cs (hc2 j hj) (.inr ?_)⟩
    · rw [List.getElem_set_ne (by omega)]; exact rIntK_stores cs hq2 hnw
    · show 0 + t * 2 + j < k * 2 ∨ k * 2 + cs.length ≤ 0 + t * 2 + j
      omega

/-- a row of noughts that was made -/
theorem make_ints (n : Nat) (hn : n ≤ 1099511627776) (K : Nat) : ∃ cur : Array Value, ∀ w : World, (Instr.makeSlice 30 (.int .i64 (n : Int)) (.int .i64 (n : Int))).run Tryz.prog w = .ok (.slice (some ⟨w.heap.size, 0, none⟩) n n) (w.alloc (.cells cur 25)) ∧ Sl (rIntK K) w.heap.size (w.alloc (.cells cur 25)) (some ⟨w.heap.size, 0, none⟩) n n (List.replicate n 0) := by
  obtain ⟨i0, h1, h2, h3, h4⟩ := info_parts info_int
  refine ⟨madeCells (Value.agg #[.bool false, .slice none 0 0]).cells (n * i0.size), fun w => ⟨?_, ?_⟩⟩
  · have hmb : (i0.bytes : Int) * (n : Int) ≤ 281474976710656 := by
      rw [h4, ← Int.natCast_mul, Nat.mul_comm]; omega
    have := run_make (P := Tryz.prog) w 30 25 i0 _ under_ints h1 h2 .i64 .i64 (n : Int) (n : Int) (by omega) (by omega) hmb (by omega)
    rw [this]
    simp
  · have hb := Blk.new w 25 (madeCells (Value.agg #[.bool false, .slice none 0 0]).cells (n * i0.size))
    refine ⟨by simp, Nat.le_refl _, by omega, fun e => (by cases e), fun i hi => ⟨w.heap.size, 0, [.bool false, .slice none 0 0], rfl, ⟨false, none, 0, 0, [], rfl, natS_nil _ _, by simp; rfl, Nat.zero_le _⟩, fun j hj => ⟨Nat.le_refl _, ?_, hb.free _⟩⟩⟩
    have hin : i < n := by simpa using hi
    have hsz : (rIntK K).size = 2 := rfl
    rw [h3] at hb
    refine (h3 ▸ hb).cell ?_
    obtain rfl | rfl : j = 0 ∨ j = 1 := by simp at hj; omega
    · simp [madeCells, Value.cells, hsz]
      exact ⟨i * 2, by rw [Array.getElem?_eq_getElem (by simp; rw [h3]; omega)]; simp, by rw [show i * 2 % 2 = 0 by omega]; rfl⟩
    · simp [madeCells, Value.cells, hsz]
      exact ⟨i * 2 + 1, by rw [Array.getElem?_eq_getElem (by simp; rw [h3]; omega)]; simp, by rw [show (i * 2 + 1) % 2 = 1 by omega]; rfl⟩
end Go.Proofs.YtbhenelehhiakaaGreat
/-
  qmat: Blocks.
-/
namespace Go.Proofs.YtbhenelehhiakaaGreat
open Go.RowKit

/-- entries are laid into a row from a place on -/
def setFrom (l : List Int) : Nat → List Int → List Int
  | _, [] => l
  | at_, z :: zs => setFrom (l.set at_ z) (at_ + 1) zs
theorem setFrom_snoc (zs : List Int) (z : Int) : ∀ (l : List Int) (a : Nat), setFrom l a (zs ++ [z]) = (setFrom l a zs).set (a + zs.length) z := by
  induction zs with
  | nil => intro l a; simp [setFrom]
  | cons y zs ih =>
    intro l a
    rw [List.cons_append, setFrom, ih, setFrom, List.length_cons]
    congr 1; omega
theorem length_setFrom (zs : List Int) : ∀ (l : List Int) (a : Nat), (setFrom l a zs).length = l.length := by
  induction zs with
  | nil => intro l a; rfl
  | cons y zs ih => intro l a; rw [setFrom, ih, List.length_set]

abbrev Ms := List (Int × List (List Int))
def blkDen (ms : Ms) : Int := ms.foldl (fun d m => d * m.1) 1
def blkCols (ms : Ms) : Nat := (ms.map fun m => colsOf m.2).sum
def rowOf (cols a : Nat) (f : Int) (zs : List Int) : List Int := setFrom (List.replicate cols 0) a (zs.map (· * f))
def blkRows (cols : Nat) (D : Int) : Ms → Nat → List (List Int)
  | [], _ => []
  | m :: ms, a => m.2.map (rowOf cols a (D / m.1)) ++ blkRows cols D ms (a + colsOf m.2)
theorem blkDen_snoc (ms : Ms) (m : Int × List (List Int)) : blkDen (ms ++ [m]) = blkDen ms * m.1 := by simp [blkDen]
theorem blkCols_snoc (ms : Ms) (m : Int × List (List Int)) : blkCols (ms ++ [m]) = blkCols ms + colsOf m.2 := by simp [blkCols]
theorem blkRows_snoc (cols : Nat) (D : Int) (m : Int × List (List Int)) : ∀ (ms : Ms) (a : Nat), blkRows cols D (ms ++ [m]) a = blkRows cols D ms a ++ m.2.map (rowOf cols (a + blkCols ms) (D / m.1)) := by
  intro ms
  induction ms with
  | nil => intro a; simp [blkRows, blkCols]
  | cons y ms ih =>
    intro a
    rw [List.cons_append, blkRows, ih, blkRows, List.append_assoc]
    rw [show a + blkCols (y :: ms) = a + colsOf y.2 + blkCols ms by simp [blkCols]; omega]
theorem blkDen_dvd (ms ms2 : Ms) : blkDen ms ∣ blkDen (ms ++ ms2) := by
  have key : ∀ (ms2 : Ms) (z : Int), z ∣ ms2.foldl (fun d m => d * m.1) z := by
    intro ms2
    induction ms2 with
    | nil => intro z; exact Int.dvd_refl _
    | cons m ms ih => intro z; exact Int.dvd_trans ⟨m.1, rfl⟩ (ih _)
  unfold blkDen
  rw [List.foldl_append]
  exact key _ _
theorem blkDen_ne (ms : Ms) (h : ∀ m ∈ ms, m.1 ≠ 0) : blkDen ms ≠ 0 := by
  have key : ∀ (ms : Ms) (z : Int), z ≠ 0 → (∀ m ∈ ms, m.1 ≠ 0) → ms.foldl (fun d m => d * m.1) z ≠ 0 := by
    intro ms
    induction ms with
    | nil => intro z hz _; exact hz
    | cons m ms ih => intro z hz h; exact ih _ (Int.mul_ne_zero hz (h m (List.mem_cons_self ..))) (fun y hy => h y (List.mem_cons_of_mem _ hy))
  exact key ms 1 (by decide) h
theorem den_dvd_blkDen (ms : Ms) (m : Int × List (List Int)) (h : m ∈ ms) : m.1 ∣ blkDen ms := by
  obtain ⟨l, r, rfl⟩ := List.append_of_mem h
  rw [show l ++ m :: r = (l ++ [m]) ++ r by simp]
  refine Int.dvd_trans ?_ (blkDen_dvd _ _)
  rw [blkDen_snoc]
  exact ⟨blkDen l, Int.mul_comm _ _⟩
theorem nl_dvd {x y : Int} {K : Nat} (h : x ∣ y) (hy : y ≠ 0) (hK : nl y.natAbs ≤ K) : nl x.natAbs ≤ K :=
  Nat.le_trans (nl_mono (Nat.le_of_dvd (Int.natAbs_pos.2 hy) (Int.natAbs_dvd_natAbs.2 h))) hK
theorem even_len {α : Type} {xss : List (List α)} (h : evenB xss = true) : ∀ xs ∈ xss, xs.length = colsOf xss := fun xs hx => by
  unfold evenB at h
  exact of_decide_eq_true (List.all_eq_true.1 h xs hx)
theorem checksE_zero : ∀ {ms : Ms}, checksE ms = 0 → ∀ m ∈ ms, m.1 ≠ 0 ∧ evenB m.2 = true := by
  intro ms
  induction ms with
  | nil => intro _ m hm; simp at hm
  | cons y ms ih =>
    intro h m hm
    unfold checksE at h
    by_cases h0 : checkE y.1 y.2 = 0
    · rw [if_pos h0] at h
      rcases List.mem_cons.1 hm with rfl | hm
      · exact checkE_zero h0
      · exact ih h m hm
    · rw [if_neg h0] at h; exact absurd h h0
theorem length_blkRows (cols : Nat) (D : Int) : ∀ (ms : Ms) (a : Nat), (blkRows cols D ms a).length = (ms.map fun m => m.2.length).sum := by
  intro ms
  induction ms with
  | nil => intro a; rfl
  | cons y ms ih => intro a; rw [blkRows, List.length_append, List.length_map, ih]; simp
theorem blkRows_len (cols : Nat) (D : Int) : ∀ (ms : Ms) (a : Nat), ∀ row ∈ blkRows cols D ms a, row.length = cols := by
  intro ms
  induction ms with
  | nil => intro a row hr; simp [blkRows] at hr
  | cons y ms ih =>
    intro a row hr
    rw [blkRows] at hr
    rcases List.mem_append.1 hr with hr | hr
    · obtain ⟨zs, _, rfl⟩ := List.mem_map.1 hr
      unfold rowOf
      rw [length_setFrom, List.length_replicate]
    · exact ih _ row hr
theorem sum_take_le (f : Int × List (List Int) → Nat) (ms : Ms) (i : Nat) : ((ms.take i).map f).sum ≤ (ms.map f).sum := by
  conv => rhs; rw [← List.take_append_drop i ms]
  rw [List.map_append, List.sum_append]; omega

/-- the two cells of an integer in a row that may be written -/
theorem Sl.cells2 {K B : Nat} {w : World} {g n c : Nat} {xs : List Int} (h : Sl (rIntK K) B w (some ⟨g, 0, none⟩) n c xs) {k : Nat} (hk : k < n) : g < w.heap.size ∧ (∃ u, w.cell? ⟨g, k * 2, none⟩ = some u) ∧ w.frozen? ⟨g, k * 2, none⟩ = false ∧ (∃ u, w.cell? ⟨g, k * 2 + 1, none⟩ = some u) ∧ w.frozen? ⟨g, k * 2 + 1, none⟩ = false := by
  obtain ⟨bk, ok, csk, hgk, hqk, hck⟩ := h.at_ k (by rw [h.len]; exact hk)
  cases hgk
  have hl2 : csk.length = 2 := (rIntK K).len hqk
  have key : ∀ j (hj : j < 2), Cel B w g (k * 2 + j) (csk[j]'(by omega)) := fun j hj => by
    have := hck j (by omega)
    rwa [Nat.zero_add] at this
  exact ⟨cel_lt (key 0 (by omega)), ⟨_, (key 0 (by omega)).cell⟩, (key 0 (by omega)).free, ⟨_, (key 1 (by omega)).cell⟩, (key 1 (by omega)).free⟩

set_option maxRecDepth 100000 in
set_option maxHeartbeats 16000000 in
theorem blocks_any (K KD cols R : Nat) (hK : K + KD ≤ 8796093022208) (w : World) (a : Option Addr) (n c : Nat) (ms : Ms) (h : Sl (rMatK K) 0 w a n c ms) (hs : Hid (checksE ms = 0)) (D : Int) (hD : Hid (blkDen ms = D)) (hDK : nl D.natAbs ≤ KD)
    (hcol : Hid (blkCols ms = cols)) (hcols : cols ≤ 1099511627776) (hR : Hid ((ms.map fun m => m.2.length).sum = R)) (hRR : R ≤ 1099511627776) (hrow : Hid (∀ m ∈ ms, ∀ zs ∈ m.2, zs.length ≤ 1099511627776)) :
    Calls Tryz.prog 77 #[.slice a n c] w (RMatOk w (madeDen D (blkRows cols D ms 0)) (madeRows D (blkRows cols D ms 0))) := by
  obtain ⟨cur, hmk0⟩ := make_ints cols hcols (K + KD)
  have hmk := fun w => (hmk0 w).1
  have HMK := Lib.hid (fun w => (hmk0 w).2)
  clear hmk0
  have HS := Lib.hid h
  have hmost := h.most
  have hcap := h.cap
  have hlen := Lib.hid h.len
  have HOK := Lib.hid (checksE_zero hs.out)
  have HDN : Hid (D ≠ 0) := Lib.hid (by rw [← hD.out]; exact blkDen_ne ms (fun m hm => (HOK.out m hm).1))
  clear h
  go_enter Tryz.func77, Tryz.ntmps77
  go_wp2_with fail
  have r := Blk.new w 28 #[.bool false, .slice none 0 0, .slice none 0 0]
  have hEW : Ext w (w.alloc (Obj.cells #[.bool false, .slice none 0 0, .slice none 0 0] 28)) := ((Below.refl _ w).alloc (by simp) _)
  generalize hgW : w.alloc (Obj.cells #[.bool false, .slice none 0 0, .slice none 0 0] 28) = W at *
  clear hgW
  replace r_0 := r.cell (i := 0) rfl
  replace r_1 := r.cell (i := 1) rfl
  replace r_2 := r.cell (i := 2) rfl
  replace r_f0 := r.free 0
  replace r_f1 := r.free 1
  replace r_f2 := r.free 2
  replace r_lt := r.lt
  have hW : w.heap.size + 1 ≤ W.heap.size := r_lt
  refine (checks_any K (by omega) W a n c ms (HS.out.ext (Nat.le_refl _) hEW) 0 hs).mono ?_
  rintro e w0 ⟨rfl, hE0⟩
  replace r := r.ext hE0; replace r_0 := r.cell (i := 0) rfl; replace r_1 := r.cell (i := 1) rfl; replace r_2 := r.cell (i := 2) rfl; replace r_f0 := r.free 0; replace r_f1 := r.free 1; replace r_f2 := r.free 2; replace r_lt := r.lt
  replace hE0 := Ext.trans hEW hE0
  have hw0 : w.heap.size + 1 ≤ w0.heap.size := r_lt
  clear hEW
  go_wp2_with fail
  refine (zintOf_any 1 w0 (by omega) (by omega)).mono ?_
  rintro e w1 ⟨a3, n3, c3, rfl, h3, hE1⟩
  replace r := r.ext hE1; replace r_0 := r.cell (i := 0) rfl; replace r_1 := r.cell (i := 1) rfl; replace r_2 := r.cell (i := 2) rfl; replace r_f0 := r.free 0; replace r_f1 := r.free 1; replace r_f2 := r.free 2; replace r_lt := r.lt
  rw [show decide ((1 : Int) < 0) = false from rfl]
  replace h3 := h3.mono hw0 (Kept.refl _ _)
  replace hE0 := Ext.trans hE0 hE1
  have hw1 : w.heap.size + 1 ≤ w1.heap.size := Nat.le_trans hw0 hE1.size
  clear hE1
  go_wp2_with fail
  have d := Blk.new w1 25 #[.bool false, .slice a3 n3 c3]
  have hEW2 : Ext w1 (w1.alloc (Obj.cells #[.bool false, .slice a3 n3 c3] 25)) := ((Below.refl _ w1).alloc (by simp) _)
  generalize hgW2 : w1.alloc (Obj.cells #[.bool false, .slice a3 n3 c3] 25) = W2 at *
  clear hgW2
  replace d_0 := d.cell (i := 0) rfl
  replace d_1 := d.cell (i := 1) rfl
  replace d_f0 := d.free 0
  replace d_f1 := d.free 1
  replace d_lt := d.lt
  replace r := r.ext hEW2; replace r_0 := r.cell (i := 0) rfl; replace r_1 := r.cell (i := 1) rfl; replace r_2 := r.cell (i := 2) rfl; replace r_f0 := r.free 0; replace r_f1 := r.free 1; replace r_f2 := r.free 2; replace r_lt := r.lt
  have HDB : Hid (∃ a3 n3 c3, Blk W2 w1.heap.size 25 #[.bool (decide (blkDen (ms.take 0) < 0)), .slice a3 n3 c3] ∧ NatS (w.heap.size + 1) W2 a3 n3 c3 (limbs (blkDen (ms.take 0)).natAbs)) := Lib.hid ⟨a3, n3, c3, d, h3.ext (Nat.le_refl _) hEW2⟩
  have HR0 := Lib.hid r
  have HE2 := Lib.hid (Ext.trans hE0 hEW2)
  clear h3 hE0 hEW2 d d_0 d_1 d_f0 d_f1 d_lt r r_0 r_1 r_2 r_f0 r_f1 r_f2 r_lt
  go_loopg [5, 33] n (fun q vc vi wr => ∃ (i m : Nat), i ≤ n ∧ q = n - i ∧ vi = .int .i64 (i : Int) ∧ vc = .int .i64 (m : Int) ∧ m ≤ cols ∧ Hid (blkCols (ms.take i) = m) ∧ Hid (∃ a3 n3 c3, Blk wr w1.heap.size 25 #[.bool (decide (blkDen (ms.take i) < 0)), .slice a3 n3 c3] ∧ NatS (w.heap.size + 1) wr a3 n3 c3 (limbs (blkDen (ms.take i)).natAbs)) ∧ Hid (Blk wr w.heap.size 28 #[.bool false, .slice none 0 0, .slice none 0 0]) ∧ Hid (Ext w wr))
  case atStart => exact ⟨0, 0, Nat.zero_le _, by omega, rfl, rfl, Nat.zero_le _, Lib.hid rfl, HDB, HR0, HE2⟩
  case round =>
    clear HDB HR0 HE2
    obtain ⟨i, m, hi, hq, rfl, rfl, hmc, HM, HB, HR, HE⟩ := hrel
    by_cases hin : i < n
    · obtain ⟨b5, o5, s5, a5, n5, c5, a6, n6, c6, x, rfl, hb5, hx, hc5, hc6, hc7, h5⟩ := HS.out.getMat hin
      replace hc5 := (HE.out.cell (p := ⟨b5, o5 + i * 3, none⟩) hb5).trans hc5
      replace hc6 := (HE.out.cell (p := ⟨b5, o5 + i * 3 + 1, none⟩) hb5).trans hc6
      replace hc7 := (HE.out.cell (p := ⟨b5, o5 + i * 3 + 2, none⟩) hb5).trans hc7
      have H5 := Lib.hid (h5.ext HE.out)
      obtain ⟨hil, hxe⟩ := List.getElem?_eq_some_iff.1 hx
      have hmem : x ∈ ms := List.mem_of_getElem? hx
      have hts : ms.take (i + 1) = ms.take i ++ [x] := by rw [List.take_succ_eq_append_getElem hil, hxe]
      have HDS : Hid (blkDen (ms.take (i + 1)) = blkDen (ms.take i) * x.1) := Lib.hid (by rw [hts, blkDen_snoc])
      have HCS : Hid (blkCols (ms.take (i + 1)) = m + colsOf x.2) := Lib.hid (by rw [hts, blkCols_snoc, HM.out])
      have hcs : m + colsOf x.2 ≤ cols := by
        rw [← HCS.out, ← hcol.out]; exact sum_take_le (fun m => colsOf m.2) ms (i + 1)
      have hlen6 : n6 = x.2.length := by obtain ⟨_, _, _, _, h9⟩ := h5; exact h9.len.symm
      have hn6 : n6 ≤ 1099511627776 := by
        rw [hlen6]
        have h8 := sum_take_le (fun m => m.2.length) ms (i + 1)
        rw [hR.out, hts, List.map_append, List.sum_append] at h8
        simp at h8; omega
      have HRW := Lib.hid (hrow.out x hmem)
      have hnd : nl (blkDen (ms.take i)).natAbs ≤ KD := nl_dvd (y := D) (by rw [← hD.out]; conv => rhs; rw [← List.take_append_drop i ms]
                                                                            exact blkDen_dvd _ _) HDN.out hDK
      obtain ⟨a3, n3, c3, hd, h3⟩ := HB.out
      have hn3 : n3 ≤ KD := by have := h3.len; rw [length_limbs] at this; omega
      have H3 := Lib.hid h3
      have d := hd
      have r := HR.out
      obtain ⟨cx, hcx⟩ : ∃ cx, colsOf x.2 = cx := ⟨_, rfl⟩
      have HCX := Lib.hid hcx
      rw [hcx] at hcs HCS
      clear hx hxe hmem hts hlen6 h5 h3 hd hcx HB HR
      generalize hzz : blkDen (ms.take i) = z at *
      clear hzz
      skip
      skip
      replace r_0 := r.cell (i := 0) rfl
      replace r_1 := r.cell (i := 1) rfl
      replace r_2 := r.cell (i := 2) rfl
      replace r_f0 := r.free 0
      replace r_f1 := r.free 1
      replace r_f2 := r.free 2
      replace r_lt := r.lt
      replace d_0 := d.cell (i := 0) rfl
      replace d_1 := d.cell (i := 1) rfl
      replace d_f0 := d.free 0
      replace d_f1 := d.free 1
      replace d_lt := d.lt
      go_wp2_with fail
      clear hc5 hc6 hc7
      have y := Blk.new wr 28 #[.bool s5, .slice a5 n5 c5, .slice a6 n6 c6]
      have hEW3 : Ext wr (wr.alloc (Obj.cells #[.bool s5, .slice a5 n5 c5, .slice a6 n6 c6] 28)) := ((Below.refl _ wr).alloc (by simp) _)
      generalize hgW3 : wr.alloc (Obj.cells #[.bool s5, .slice a5 n5 c5, .slice a6 n6 c6] 28) = W3 at *
      clear hgW3
      replace y_0 := y.cell (i := 0) rfl
      replace y_1 := y.cell (i := 1) rfl
      replace y_2 := y.cell (i := 2) rfl
      replace r := r.ext hEW3; replace r_0 := r.cell (i := 0) rfl; replace r_1 := r.cell (i := 1) rfl; replace r_2 := r.cell (i := 2) rfl; replace r_f0 := r.free 0; replace r_f1 := r.free 1; replace r_f2 := r.free 2; replace r_lt := r.lt; replace d := d.ext hEW3; replace d_0 := d.cell (i := 0) rfl; replace d_1 := d.cell (i := 1) rfl; replace d_f0 := d.free 0; replace d_f1 := d.free 1; replace d_lt := d.lt
      have HE3 := Lib.hid (Ext.trans HE.out hEW3)
      refine (qsize_any K (by omega) W3 s5 a5 a6 n5 c5 n6 c6 x.1 x.2 (H5.out.ext hEW3) hn6 HRW cx HCX).mono ?_
      rintro e w4 ⟨rfl, hE4⟩
      replace r := r.ext hE4; replace r_0 := r.cell (i := 0) rfl; replace r_1 := r.cell (i := 1) rfl; replace r_2 := r.cell (i := 2) rfl; replace r_f0 := r.free 0; replace r_f1 := r.free 1; replace r_f2 := r.free 2; replace r_lt := r.lt; replace d := d.ext hE4; replace d_0 := d.cell (i := 0) rfl; replace d_1 := d.cell (i := 1) rfl; replace d_f0 := d.free 0; replace d_f1 := d.free 1; replace d_lt := d.lt; replace y := y.ext hE4; replace y_0 := y.cell (i := 0) rfl; replace y_1 := y.cell (i := 1) rfl; replace y_2 := y.cell (i := 2) rfl
      have hEy := Ext.trans hEW3 hE4
      have HE4 := Lib.hid (Ext.trans HE.out hEy)
      obtain ⟨l5, h51, h52, h53, _⟩ := H5.out.ext hEy
      have H52 := Lib.hid h52
      have h3 := H3.out.ext (Nat.zero_le _) hEy
      have hw4 : w.heap.size + 1 ≤ w4.heap.size := Nat.le_trans hw1 (Nat.le_of_lt d_lt)
      clear h52 hEW3 hE4 hEy
      go_wp2_with fail
      refine (zintMul_z _ s5 0 w4 _ _ _ _ _ _ _ l5 z x.1 h3 h51 (by omega) (by omega) (hnorm _) H52).mono ?_
      rintro e w5 ⟨a8, n8, c8, rfl, h8, hE5⟩
      replace r := r.ext hE5; replace r_0 := r.cell (i := 0) rfl; replace r_1 := r.cell (i := 1) rfl; replace r_2 := r.cell (i := 2) rfl; replace r_f0 := r.free 0; replace r_f1 := r.free 1; replace r_f2 := r.free 2; replace r_lt := r.lt; replace d := d.ext hE5; replace d_0 := d.cell (i := 0) rfl; replace d_1 := d.cell (i := 1) rfl; replace d_f0 := d.free 0; replace d_f1 := d.free 1; replace d_lt := d.lt
      have H8 := Lib.hid (h8.mono hw4 (Kept.refl _ _))
      rw [← HDS.out] at H8 ⊢
      generalize hz2 : blkDen (ms.take (i + 1)) = z2 at *
      have HZ2 := Lib.hid hz2
      have HDz := Lib.hid ((d.set 0 (.bool (decide (z2 < 0)))).set 1 (.slice a8 n8 c8))
      have HRz := Lib.hid ((r.set_ne 0 (.bool (decide (z2 < 0))) (show w.heap.size ≠ w1.heap.size by omega)).set_ne 1 (.slice a8 n8 c8) (show w.heap.size ≠ w1.heap.size by omega))
      have HNz := Lib.hid (NatS.set (NatS.set H8.out d_0 (fun x => by simp) (.bool (decide (z2 < 0)))) ((d.set 0 (.bool (decide (z2 < 0)))).cell (i := 1) rfl) (fun x => by simp) (.slice a8 n8 c8))
      have HEz := Lib.hid (Below.setCell (Below.setCell (Ext.trans HE4.out hE5) (p := ⟨w1.heap.size, 0, none⟩) (show w.heap.size ≤ w1.heap.size by omega) (.bool (decide (z2 < 0)))) (p := ⟨w1.heap.size, 1, none⟩) (show w.heap.size ≤ w1.heap.size by omega) (.slice a8 n8 c8))
      clear h3 h51 h8 hE5 hz2
      go_wp2_with fail
      go_roundg (n - (i + 1))
      case measure => omega
      case rel => exact ⟨i + 1, m + cx, by omega, rfl, by go_num, by go_num, hcs, HCS, Lib.hid ⟨a8, n8, c8, by rw [HZ2.out]; exact HDz.out, by rw [HZ2.out]; exact HNz.out⟩, HRz, HEz⟩
    · obtain rfl : i = n := by omega
      have hfull : ms.take i = ms := List.take_of_length_le (by rw [hlen.out]; exact Nat.le_refl _)
      have HB2 := HB.out
      have HM2 := HM.out
      rw [hfull] at HB2 HM2
      rw [hD.out] at HB2
      rw [hcol.out] at HM2
      obtain rfl : m = cols := HM2.symm
      obtain ⟨a3, n3, c3, hd, h3⟩ := HB2
      have hn3 : n3 ≤ KD := by have := h3.len; rw [length_limbs] at this; omega
      obtain ⟨wz, rfl⟩ : ∃ wz : World, wz = wr := ⟨_, rfl⟩
      have H3 := Lib.hid h3
      have HD0 := Lib.hid hd
      have hdl := hd.lt
      clear hfull HM2 HM hd h3 HB
      go_wp2_with fail
      go_loopg [11, 12, 52] i (fun q vo va vi wr => ∃ (j f : Nat), j ≤ i ∧ q = i - j ∧ vi = .int .i64 (j : Int) ∧ va = .int .i64 (f : Int) ∧ f ≤ m ∧ Hid (blkCols (ms.take j) = f) ∧ Hid (∃ css N, Grp (rIntK (K + KD)).slice wz.heap.size 30 wr vo N (blkRows m D (ms.take j) 0) css) ∧ Hid (Ext wz wr))
      case atStart => exact ⟨0, 0, Nat.zero_le _, by omega, rfl, rfl, Nat.zero_le _, Lib.hid rfl, Lib.hid ⟨[], 0, Grp.nil _ _ _ _⟩, Lib.hid (Ext.refl _)⟩
      case round =>
        obtain ⟨j, f, hj, hq2, rfl, rfl, hfm, HF, HG, HEx⟩ := hrel
        by_cases hji : j < i
        · obtain ⟨b5, o5, s5, a5, n5, c5, a6, n6, c6, x, rfl, hb5, hx, hc5, hc6, hc7, h5⟩ := HS.out.getMat hji
          have hEa := Ext.trans HE.out HEx.out
          replace hc5 := (hEa.cell (p := ⟨b5, o5 + j * 3, none⟩) hb5).trans hc5
          replace hc6 := (hEa.cell (p := ⟨b5, o5 + j * 3 + 1, none⟩) hb5).trans hc6
          replace hc7 := (hEa.cell (p := ⟨b5, o5 + j * 3 + 2, none⟩) hb5).trans hc7
          have H5 := Lib.hid (h5.ext hEa)
          have H5w := Lib.hid h5
          obtain ⟨hil, hxe⟩ := List.getElem?_eq_some_iff.1 hx
          have hmem : x ∈ ms := List.mem_of_getElem? hx
          have hts : ms.take (j + 1) = ms.take j ++ [x] := by rw [List.take_succ_eq_append_getElem hil, hxe]
          have HCS : Hid (blkCols (ms.take (j + 1)) = f + colsOf x.2) := Lib.hid (by rw [hts, blkCols_snoc, HF.out])
          have HRS : Hid (blkRows m D (ms.take (j + 1)) 0 = blkRows m D (ms.take j) 0 ++ x.2.map (rowOf m f (D / x.1))) := Lib.hid (by rw [hts, blkRows_snoc, Nat.zero_add, HF.out])
          have hcs : f + colsOf x.2 ≤ m := by rw [← HCS.out, ← hcol.out]; exact sum_take_le (fun m => colsOf m.2) ms (j + 1)
          have hlen6 : n6 = x.2.length := by obtain ⟨_, _, _, _, h9⟩ := h5; exact h9.len.symm
          have hnr : (blkRows m D (ms.take j) 0).length + n6 ≤ 1099511627776 := by
            have h8 := sum_take_le (fun m => m.2.length) ms (j + 1)
            rw [hR.out, hts, List.map_append, List.sum_append, ← length_blkRows m D _ 0] at h8
            simp at h8
            rw [hlen6]; omega
          have HRW := Lib.hid (hrow.out x hmem)
          have HEV := Lib.hid (even_len (HOK.out x hmem).2)
          have HX0 := Lib.hid (HOK.out x hmem).1
          have HXD : Hid (x.1 ∣ D) := Lib.hid (by rw [← hD.out]; exact den_dvd_blkDen ms x hmem)
          have HL6 := Lib.hid hlen6
          obtain ⟨cx, hcx⟩ : ∃ cx, colsOf x.2 = cx := ⟨_, rfl⟩
          have HCX := Lib.hid hcx
          rw [hcx] at hcs HCS
          have d := HD0.out.ext HEx.out
          clear hx hxe hmem hts hlen6 h5 hcx hEa
          skip
          replace d_0 := d.cell (i := 0) rfl
          replace d_1 := d.cell (i := 1) rfl
          have d_a0 := cell_alloc d_0 (Obj.cells #[.bool s5, .slice a5 n5 c5, .slice a6 n6 c6] 28)
          have d_a1 := cell_alloc d_1 (Obj.cells #[.bool s5, .slice a5 n5 c5, .slice a6 n6 c6] 28)
          go_wp2_with fail
          clear hc5 hc6 hc7 d_a0 d_a1
          have y := Blk.new wr 28 #[.bool s5, .slice a5 n5 c5, .slice a6 n6 c6]
          have hEW3 : Ext wr (wr.alloc (Obj.cells #[.bool s5, .slice a5 n5 c5, .slice a6 n6 c6] 28)) := ((Below.refl _ wr).alloc (by simp) _)
          generalize hgW3 : wr.alloc (Obj.cells #[.bool s5, .slice a5 n5 c5, .slice a6 n6 c6] 28) = W3 at *
          clear hgW3
          replace y_0 := y.cell (i := 0) rfl
          replace y_1 := y.cell (i := 1) rfl
          replace y_2 := y.cell (i := 2) rfl
          replace d := d.ext hEW3; replace d_0 := d.cell (i := 0) rfl; replace d_1 := d.cell (i := 1) rfl
          have HE3 := Lib.hid (Ext.trans HEx.out hEW3)
          obtain ⟨l5, h51, h52, h53, _⟩ := H5.out.ext hEW3
          have H52 := Lib.hid h52
          have h3 := H3.out.ext (Nat.zero_le _) HE3.out
          clear h52
          refine (zintExact_z _ s5 0 W3 _ _ _ _ _ _ _ l5 D x.1 h3 h51 (by omega) (hnorm _) H52 HX0.out HXD.out).mono ?_
          rintro e w4 ⟨v4, rfl, ⟨a8, n8, c8, rfl, h8⟩, hE4⟩
          replace y := y.ext hE4; replace y_0 := y.cell (i := 0) rfl; replace y_1 := y.cell (i := 1) rfl; replace y_2 := y.cell (i := 2) rfl
          have hn8 : n8 ≤ KD := by
            have h9 := h8.len
            rw [length_limbs] at h9
            have h10 := nl_dvd (x := D / x.1) ⟨x.1, (Int.ediv_mul_cancel HXD.out).symm⟩ HDN.out hDK
            omega
          have hE5 := Ext.trans hEW3 hE4
          generalize hfz : D / x.1 = fz at *
          clear hfz h3 h51
          have y_a0 := cell_alloc y_0 (Obj.cells #[.bool (decide (fz < 0)), .slice a8 n8 c8] 25)
          have y_a1 := cell_alloc y_1 (Obj.cells #[.bool (decide (fz < 0)), .slice a8 n8 c8] 25)
          have y_a2 := cell_alloc y_2 (Obj.cells #[.bool (decide (fz < 0)), .slice a8 n8 c8] 25)
          go_wp2_with fail
          clear y_a0 y_a1 y_a2
          have g := Blk.new w4 25 #[.bool (decide (fz < 0)), .slice a8 n8 c8]
          have hEW6 : Ext w4 (w4.alloc (Obj.cells #[.bool (decide (fz < 0)), .slice a8 n8 c8] 25)) := ((Below.refl _ w4).alloc (by simp) _)
          generalize hgW6 : w4.alloc (Obj.cells #[.bool (decide (fz < 0)), .slice a8 n8 c8] 25) = W6 at *
          clear hgW6
          replace g_0 := g.cell (i := 0) rfl
          replace g_1 := g.cell (i := 1) rfl
          replace y := y.ext hEW6; replace y_0 := y.cell (i := 0) rfl; replace y_1 := y.cell (i := 1) rfl; replace y_2 := y.cell (i := 2) rfl
          have hE6 := Ext.trans hE5 hEW6
          have h8 := h8.ext (Nat.le_refl _) hEW6
          refine (qsize_any K (by omega) W6 s5 a5 a6 n5 c5 n6 c6 x.1 x.2 (H5.out.ext hE6) (by omega) HRW cx HCX).mono ?_
          rintro e w7 ⟨rfl, hE7⟩
          replace y := y.ext hE7; replace y_0 := y.cell (i := 0) rfl; replace y_1 := y.cell (i := 1) rfl; replace y_2 := y.cell (i := 2) rfl; replace g := g.ext hE7; replace g_0 := g.cell (i := 0) rfl; replace g_1 := g.cell (i := 1) rfl
          have hE8 := Ext.trans hE6 hE7
          have H8 := Lib.hid (h8.ext (Nat.le_refl _) hE7)
          have HE8 := Lib.hid hE8
          have HGG := Lib.hid g
          obtain ⟨wy, rfl⟩ : ∃ wy : World, wy = wr := ⟨_, rfl⟩
          have HG8 : Hid (∃ css N, N = (blkRows m D (ms.take j) 0).length ∧ Grp (rIntK (K + KD)).slice wz.heap.size 30 w7 u11 N (blkRows m D (ms.take j) 0) css ∧ ∀ k, u11.ownBlock = some k → k < wy.heap.size) := Lib.hid (by
            obtain ⟨css, N, hG⟩ := HG.out
            exact ⟨css, N, hG.xlen.symm, hG.keep hE8.size (fun b _ h2 => hE8.block b h2), fun k e => (hG.own.lt k e).2⟩)
          have hW3y : wy.heap.size ≤ W3.heap.size := hEW3.size
          have hw4 : wy.heap.size ≤ w4.heap.size := Nat.le_trans hW3y hE4.size
          clear h8 hE4 hE5 hE6 hE7 hE8 hEW3 hEW6 HG
          obtain ⟨N0, hN0⟩ : ∃ N0, (blkRows m D (ms.take j) 0).length = N0 := ⟨_, rfl⟩
          rw [hN0] at hnr
          generalize hQQ : blkRows m D (ms.take j) 0 = QQ at *
          have HQQ := Lib.hid hQQ
          have HN0 := Lib.hid hN0
          have hgl := HGG.out.lt
          have hcap6 : n6 ≤ c6 := by obtain ⟨_, _, _, _, h9⟩ := H5.out; exact h9.cap
          have hmost6 : c6 ≤ 9223372036854775807 := by obtain ⟨_, _, _, _, h9⟩ := H5.out; exact h9.most
          clear hQQ hN0 g g_0 g_1 d d_0 d_1
          go_wp2_with fail
          clear y y_0 y_1 y_2
          go_loopg [11, 71] n6 (fun q vo vi wr => ∃ (t : Nat), t ≤ n6 ∧ q = n6 - t ∧ vi = .int .i64 (t : Int) ∧ Hid (∃ css, Grp (rIntK (K + KD)).slice wz.heap.size 30 wr vo (N0 + t) (QQ ++ (x.2.take t).map (rowOf m f fz)) css) ∧ Hid (Ext wz wr) ∧ Hid (∀ b, wy.heap.size ≤ b → b < w7.heap.size → wr.heap[b]? = w7.heap[b]?) ∧ w7.heap.size ≤ wr.heap.size ∧ Hid (∀ k, vo.ownBlock = some k → k < wy.heap.size ∨ w7.heap.size ≤ k))
          case atStart =>
            obtain ⟨css, N, hN, hG, hown⟩ := HG8.out
            exact ⟨0, Nat.zero_le _, by omega, rfl, Lib.hid ⟨css, by rw [HN0.out] at hN; subst hN; simpa using hG⟩, Lib.hid (Ext.trans HEx.out HE8.out), Lib.hid (fun _ _ _ => rfl), Nat.le_refl _, Lib.hid (fun k e => .inl (hown k e))⟩
          case round =>
            obtain ⟨t, ht, hq3, rfl, HGt, HEt, HNt, hszt, HOt⟩ := hrel
            obtain ⟨wo, rfl⟩ : ∃ wo : World, wo = wr := ⟨_, rfl⟩
            by_cases htn : t < n6
            · obtain ⟨l6, _, _, _, h6⟩ := H5w.out.ext (Ext.trans HE.out HEt.out)
              obtain ⟨b6, o6, a1, n1, c1, zs, rfl, hb6, hzs, hc8, hZ⟩ := Sl.getRow h6 htn
              obtain ⟨htl, hze⟩ := List.getElem?_eq_some_iff.1 hzs
              have hn1 : n1 = cx := by rw [← hZ.len, ← HCX.out]; exact HEV.out zs (List.mem_of_getElem? hzs)
              have HZ := Lib.hid hZ
              have HZS := Lib.hid hzs
              have hcap1 := hZ.cap
              have hmost1 := hZ.most
              have hEA : Ext wo (wo.alloc (Obj.cells cur 25)) := (Below.refl _ _).alloc (Nat.le_refl _) _
              have HROW0 := Lib.hid (HMK.out wo)
              have HTR : Hid ((x.2.take (t + 1)).map (rowOf m f fz) = (x.2.take t).map (rowOf m f fz) ++ [rowOf m f fz zs]) := Lib.hid (by rw [List.take_succ_eq_append_getElem htl, hze, List.map_append]; rfl)
              have hzl : zs.length = n1 := hZ.len
              have HZL := Lib.hid hzl
              have hsz7 := Nat.le_trans hgl hszt
              have HGo : Hid (Blk wo w4.heap.size 25 #[.bool (decide (fz < 0)), .slice a8 n8 c8]) := Lib.hid ((HNt.out w4.heap.size hw4 hgl).trans HGG.out)
              have H8o := Lib.hid (H8.out.mono (Nat.le_refl _) (kept_int (B := W3.heap.size) (w' := wo) (fun b h1 h2 => HNt.out b (Nat.le_trans hW3y h1) h2)))
              subst hn1
              clear h6 hzs hze hZ hzl
              go_wp2_with fail
              go_loopg [79] n1 (fun q vi wk => ∃ (k : Nat), k ≤ n1 ∧ q = n1 - k ∧ vi = .int .i64 (k : Int) ∧ Hid (Sl (rIntK (K + KD)) wo.heap.size wk (some ⟨wo.heap.size, 0, none⟩) m m (setFrom (List.replicate m 0) f ((zs.take k).map (· * fz)))) ∧ Hid (Ext wo wk))
              case atStart => exact ⟨0, Nat.zero_le _, by omega, rfl, Lib.hid HROW0.out, Lib.hid hEA⟩
              case round =>
                obtain ⟨k, hk, hq4, rfl, HRk, HEk⟩ := hrel
                by_cases hkn : k < n1
                · obtain ⟨b7, o7, s7, a7, n7, c7, l7, z, rfl, hb7, hz7, hc9, hc10, h7, hi7, hn7⟩ := (HZ.out.ext (Nat.le_refl _) HEk.out).getInt hkn
                  obtain ⟨hkl, hze⟩ := List.getElem?_eq_some_iff.1 hz7
                  have HSF : Hid (setFrom (List.replicate m 0) f ((zs.take (k + 1)).map (· * fz)) = (setFrom (List.replicate m 0) f ((zs.take k).map (· * fz))).set (f + k) (z * fz)) := Lib.hid (by
                    rw [List.take_succ_eq_append_getElem hkl, hze, List.map_append, List.map_cons, List.map_nil, setFrom_snoc, List.length_map, List.length_take, Nat.min_eq_left (by omega)])
                  have HI7 := Lib.hid hi7
                  have H7 := Lib.hid h7
                  have hnz : nl (z * fz).natAbs ≤ K + KD := by
                    rw [Int.natAbs_mul]
                    have g1 := nl_mul z.natAbs fz.natAbs
                    have g2 := nl_of h7 HI7
                    have g3 : nl fz.natAbs ≤ n8 := by have := H8o.out.len; rw [length_limbs] at this; omega
                    omega
                  have g := HGo.out.ext HEk.out
                  have hfk : (f : Int) + (k : Int) < (m : Int) := by omega
                  have hwo := HEk.out.size
                  obtain ⟨z10, hz10⟩ : ∃ z10, z * fz = z10 := ⟨_, rfl⟩
                  have HZ10 := Lib.hid hz10
                  rw [hz10] at hnz HSF
                  clear hz7 hze hi7 h7 hz10
                  skip
                  replace g_0 := g.cell (i := 0) rfl
                  replace g_1 := g.cell (i := 1) rfl
                  have g_a0 := cell_alloc g_0 (Obj.cells #[.bool s7, .slice a7 n7 c7] 25)
                  have g_a1 := cell_alloc g_1 (Obj.cells #[.bool s7, .slice a7 n7 c7] 25)
                  go_wp2_with fail
                  clear g_a0 g_a1 hc9 hc10
                  have u := Blk.new wr 25 #[.bool s7, .slice a7 n7 c7]
                  have hEW9 : Ext wr (wr.alloc (Obj.cells #[.bool s7, .slice a7 n7 c7] 25)) := ((Below.refl _ wr).alloc (by simp) _)
                  generalize hgW9 : wr.alloc (Obj.cells #[.bool s7, .slice a7 n7 c7] 25) = W9 at *
                  clear hgW9
                  replace u_0 := u.cell (i := 0) rfl
                  replace u_1 := u.cell (i := 1) rfl
                  refine (zintMul_z s7 _ 0 W9 _ _ _ _ _ _ l7 _ z fz (H7.out.ext (Nat.le_refl _) hEW9) (H8o.out.ext (Nat.zero_le _) (Ext.trans HEk.out hEW9)) (by omega) (by omega) HI7 (hnorm _)).mono ?_
                  rintro e w10 ⟨a10, n10, c10, rfl, h10, hE10⟩
                  rw [HZ10.out] at h10 ⊢
                  have hE11 := Ext.trans hEW9 hE10
                  have hR10 := HRk.out.ext (Nat.le_refl _) hE11
                  obtain ⟨hgw, ⟨u0, s0⟩, f0, ⟨u1, s1⟩, f1⟩ := hR10.cells2 (k := f + k) (by omega)
                  have hOK : (rIntK (K + KD)).ok wo.heap.size w10 [.bool (decide (z10 < 0)), .slice a10 n10 c10] z10 := ⟨_, a10, n10, c10, _, rfl, h10.mono (Nat.le_trans hwo hEW9.size) (Kept.refl _ _), ival_norm z10, by have := h10.len; rw [length_limbs] at this; omega⟩
                  have HP := Lib.hid (hR10.setInt (k := f + k) (by omega) hOK)
                  have HEP := Lib.hid (Below.setCell (Below.setCell (Ext.trans HEk.out hE11) (p := ⟨wo.heap.size, (f + k) * 2, none⟩) (Nat.le_refl _) (.bool (decide (z10 < 0)))) (p := ⟨wo.heap.size, (f + k) * 2 + 1, none⟩) (Nat.le_refl _) (.slice a10 n10 c10))
                  clear h10 hE10 hE11 hR10 hOK hEW9 u u_0 u_1 g g_0 g_1
                  go_wp2_with fail
                  go_roundg (n1 - (k + 1))
                  case measure => omega
                  case rel => exact ⟨k + 1, by omega, rfl, by go_num, Lib.hid (by rw [HSF.out]; exact HP.out), HEP⟩
                · obtain rfl : k = n1 := by omega
                  have hRk := HRk.out
                  rw [List.take_of_length_le (by rw [HZL.out]; exact Nat.le_refl _)] at hRk
                  have hEB : Ext wr (wr.alloc (Obj.cells #[.slice (some ⟨wo.heap.size, 0, none⟩) m m] 30)) := (Below.refl _ _).alloc (Nat.le_refl _) _
                  have hEB2 := Ext.trans HEk.out hEB
                  obtain ⟨css2, hGo⟩ := HGt.out
                  have hlt11 := hGo.own.lt
                  have hG11 := Lib.hid (hGo.keep hEB2.size (fun b _ h2 => hEB2.block b h2))
                  have H11 := Lib.hid (hRk.ext (Nat.le_refl _) hEB)
                  have HE11 := Lib.hid (Ext.trans HEt.out hEB2)
                  have hwz : wz.heap.size ≤ wo.heap.size := HEt.out.size
                  have hszB := hEB2.size
                  have hnews : ∀ (j' : Nat) (u : Value), [Value.slice (some ⟨wo.heap.size, 0, none⟩) m m][j']? = some u → (wr.alloc (Obj.cells #[.slice (some ⟨wo.heap.size, 0, none⟩) m m] 30)).cell? ((⟨wr.heap.size, 0, none⟩ : Addr).add j') = some u := fun j' u hu => by
                    match j', hu with
                    | 0, hu => cases hu; exact (Blk.new wr 30 #[.slice (some ⟨wo.heap.size, 0, none⟩) m m]).cell (i := 0) rfl
                    | k + 1, hu => simp at hu
                  obtain ⟨i0, hi0, hz0, hz1, hz2⟩ := info_parts info_ints
                  clear hGo hEB2 hRk hEB
                  go_wp2_with (at_builtin; refine wpList_append_own_at _ rfl _ _ 26 rfl wz.heap.size 30 i0 _ 1 24 under_intss hi0 hz0 hz1 hz2 rfl (by decide) _ _ _ rfl hG11.out.own ⟨wr.heap.size, 0, none⟩ 1 1 [.slice (some ⟨wo.heap.size, 0, none⟩) m m] rfl rfl hnews (by simp [Value.oneCell']) (by unfold maxLen; omega) (by omega) (by exact Nat.le_trans hwz hszB) ?_; intro v' w1_ hown' hgrow _ hat)
                  have HAD := Lib.hid (hG11.out.add hown' hgrow hat (x := rowOf m f fz zs) (Bx := wo.heap.size) ⟨_, m, m, rfl, H11.out⟩ hwz (fun k e => (hlt11 k e).2))
                  have HEN := Lib.hid (HE11.out.grown hgrow HE11.out.size (fun k e => (hlt11 k e).1))
                  have hgs := hgrow.size
                  have hsz2 : w7.heap.size ≤ w1_.heap.size := by omega
                  have HNN : Hid (∀ b, wy.heap.size ≤ b → b < w7.heap.size → w1_.heap[b]? = w7.heap[b]?) := Lib.hid (fun b h1 h2 => (hgrow.block b (by omega) (fun e => by rcases HOt.out b e.symm with h | h <;> omega)).trans (((Ext.trans HEk.out ((Below.refl _ _).alloc (Nat.le_refl _) _)).block b (by omega)).trans (HNt.out b h1 h2)))
                  have HON : Hid (∀ k, v'.ownBlock = some k → k < wy.heap.size ∨ w7.heap.size ≤ k) := Lib.hid (fun k e => by
                    rcases hat with hat | hat
                    · rw [hat] at e; exact HOt.out k e
                    · rw [hat] at e; have e2 := Option.some.inj e; right; omega)
                  clear hown' hgrow hat hnews
                  go_roundg (n6 - (t + 1))
                  case measure => omega
                  case rel => exact ⟨t + 1, by omega, rfl, by go_num, Lib.hid ⟨css2 ++ [[.slice (some ⟨wo.heap.size, 0, none⟩) m m]], by rw [HTR.out, ← List.append_assoc]; exact HAD.out⟩, HEN, HNN, hsz2, HON⟩
            · obtain rfl : t = n6 := by omega
              obtain ⟨css, hG⟩ := HGt.out
              rw [List.take_of_length_le (by rw [← HL6.out]; exact Nat.le_refl _)] at hG
              have HGN := Lib.hid hG
              have hfc : (f : Int) + (cx : Int) ≤ (m : Int) := by omega
              clear hG
              go_wp2_with fail
              go_roundg (i - (j + 1))
              case measure => omega
              case rel => exact ⟨j + 1, f + cx, by omega, rfl, by go_num, by go_num, hcs, HCS, Lib.hid ⟨css, N0 + t, by rw [HRS.out]; exact HGN.out⟩, HEt⟩
        · obtain rfl : j = i := by omega
          obtain ⟨css, N, hG⟩ := HG.out
          have hfull : ms.take j = ms := List.take_of_length_le (by rw [hlen.out]; exact Nat.le_refl _)
          rw [hfull] at hG
          have hN : N ≤ 1099511627776 := by rw [← hG.xlen, length_blkRows, hR.out]; omega
          obtain ⟨aa, ca, rfl, hsl⟩ := hG.sl
          obtain ⟨xss, hGd, hxz⟩ := grid_of (intB_of_K hK hsl) (by omega) (fun row hr => by rw [blkRows_len m D ms 0 row hr]; exact hcols)
          have HGd := Lib.hid hGd
          have HXZ := Lib.hid hxz
          have d := HD0.out.ext HEx.out
          have r := HR.out.ext HEx.out
          have h3 := (H3.out.ext (Nat.zero_le _) HEx.out)
          have hE9 := Ext.trans HE.out HEx.out
          have hrl := r.lt
          clear hG hsl hGd hxz hfull HG
          generalize hQQ : blkRows m D ms 0 = QQ at *
          have HQQ := Lib.hid hQQ
          clear hQQ
          skip
          skip
          replace r_0 := r.cell (i := 0) rfl
          replace r_1 := r.cell (i := 1) rfl
          replace r_2 := r.cell (i := 2) rfl
          replace r_f0 := r.free 0
          replace r_f1 := r.free 1
          replace r_f2 := r.free 2
          replace r_lt := r.lt
          replace d_0 := d.cell (i := 0) rfl
          replace d_1 := d.cell (i := 1) rfl
          go_wp2_with fail
          refine (made_any wr _ a3 aa n3 c3 N ca _ xss h3 HGd.out (by omega) D (hnorm D) HDN.out).mono ?_
          rintro e w5 ⟨a5, n5, c5, a6, n6, c6, rfl, h5, h6, hE5⟩
          rw [HXZ.out] at h5 h6 ⊢
          replace r := r.ext hE5; replace r_0 := r.cell (i := 0) rfl; replace r_1 := r.cell (i := 1) rfl; replace r_2 := r.cell (i := 2) rfl; replace r_f0 := r.free 0; replace r_f1 := r.free 1; replace r_f2 := r.free 2; replace r_lt := r.lt
          generalize hde : madeDen D QQ = de at *
          generalize hzz : madeRows D QQ = zz at *
          have HDE := Lib.hid hde
          have HZZ := Lib.hid hzz
          have HF := Lib.hid (RMatOk.box (w := w) (r := w.heap.size) (v0 := .bool (decide (de < 0))) (v1 := .slice a5 n5 c5) (v2 := .slice a6 n6 c6) (Nat.le_refl _) hrl (Ext.trans hE9 hE5) h5 h6)
          clear h3 h5 h6 hE9 hE5 hde hzz
          generalize decide (de < 0) = sg at *
          have r2 := ((r.set 0 (.bool sg)).set 1 (.slice a5 n5 c5)).set 2 (.slice a6 n6 c6)
          have hr0 := r2.cell (i := 0) rfl
          have hr1 := r2.cell (i := 1) rfl
          have hr2 := r2.cell (i := 2) rfl
          go_wp2_with fail
          exact bodyPost_ret (v := .tuple #[.agg #[.bool sg, .slice a5 n5 c5, .slice a6 n6 c6], .int .i64 0]) (by simp [results, Tryz.results77, go_sem, hr0, hr1, hr2]) rfl HF.out
end Go.Proofs.YtbhenelehhiakaaGreat
