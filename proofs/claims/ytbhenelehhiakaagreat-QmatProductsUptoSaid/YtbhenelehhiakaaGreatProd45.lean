/-
  The references: Add of matrices.
-/
import Derived.Test.YtbhenelehhiakaaGreatProd44
import Derived.Test.YtbhenelehhiakaaGreatProd42
set_option linter.unusedVariables false
set_option linter.unusedSimpArgs false
namespace Go.Proofs.YtbhenelehhiakaaGreat
open Go.RowKit

def RTab (K r m : Nat) (f : Nat → Nat → Rat) (w : World) (e : Ending) (w' : World) : Prop := ∃ a c F, e = .returned (.slice a r c) ∧ Tab K w.heap.size w' a r c m F f ∧ (0 < m → ∀ g ∈ F, w.heap.size ≤ g ∧ g < w'.heap.size) ∧ Ext w w'
theorem Tab.fst {K B : Nat} {w : World} {a : Option Addr} {r c m : Nat} {F : List Nat} {f : Nat → Nat → Rat} (h : Tab K B w a r c m F f) (hm : 0 < m) : ∀ g ∈ F, B ≤ g ∧ g < w.heap.size := fun g hg => by
  obtain ⟨L, h1, h2, _⟩ := h
  rw [← h2] at hg
  obtain ⟨x, hx, rfl⟩ := List.mem_map.1 hg
  obtain ⟨i, hi, rfl⟩ := List.getElem_of_mem hx
  obtain ⟨_, _, _, _, g1, g2, _⟩ := h1.cells hi hm
  exact ⟨g1, g2⟩
theorem r11Rows_tab (K K3 : Nat) (hK3 : K ≤ K3) (hK : K ≤ 549755813888) (w : World) (b : Bool) (a a2 : Option Addr) (n c n2 c2 : Nat) (d : Int) (zss : List (List Int)) (h : MatS K w b a n c a2 n2 c2 d zss) (hd0 : d ≠ 0) (m : Nat) (hrow : Hid (∀ zs ∈ zss, zs.length = m)) (hn2 : n2 ≤ 1099511627776) (hm : m ≤ 1099511627776) (X : List (List Rat)) (hX : Hid (fracs d zss = X)) :
    Calls Tryz.prog 34 #[.agg #[.bool b, .slice a n c, .slice a2 n2 c2]] w (RTab K3 n2 m (entQ X) w) :=
  (r11Rows_any K hK w b a a2 n c n2 c2 d zss h hd0 m hrow hn2 hm).mono fun e w' hr => by
    rw [hX.out] at hr
    obtain ⟨a, c2, F, rfl, h1, h2, hE⟩ := hr.tab (fun qs hq => by rw [← hX.out] at hq; obtain ⟨zs, hz, rfl⟩ := List.mem_map.1 hq; rw [List.length_map]; exact hrow.out zs hz)
    exact ⟨a, c2, F, rfl, h1.weak hK3 (Nat.le_refl _), fun hm => h1.fst hm, hE⟩
theorem ratK_mk {K B : Nat} {w : World} {q : Rat} {a a2 : Option Addr} {n c n2 c2 : Nat} (h : NatS B w a n c (limbs q.num.natAbs)) (h2 : NatS B w a2 n2 c2 (limbs q.den)) (hn : nl q.num.natAbs ≤ K) (hn2 : nl q.den ≤ K) : (rRatK K).ok B w [.bool (decide (q.num < 0)), .slice a n c, .bool false, .slice a2 n2 c2] q :=
  ⟨_, a, n, c, _, a2, n2, c2, rfl, limbs q.num.natAbs, limbs q.den, h, h2, by rw [ival_limbs]; have := q.den_pos; simp; omega, by rw [ival_norm, ival_limbs]; simp; exact ratv_self q, by have := len_norm h; omega, by have := len_norm h2; omega⟩
theorem nl_ratv {K : Nat} {z d : Int} (hd : d ≠ 0) (hz : nl z.natAbs ≤ K) (h : nl d.natAbs ≤ K) : nl (ratv z d).num.natAbs ≤ K ∧ nl (ratv z d).den ≤ K :=
  ⟨Nat.le_trans (nl_mono (ratv_le z d hd).1) hz, Nat.le_trans (nl_mono (ratv_le z d hd).2) h⟩
theorem entry_nl {K B : Nat} {w : World} {a : Option Addr} {n c : Nat} {zss : List (List Int)} (h : Sl (rIntK K).slice B w a n c zss) (i k : Nat) : nl (entry zss i k).natAbs ≤ K := by
  unfold entry
  cases hi : zss[i]? with
  | none => simp [nl_zero]
  | some zs =>
    simp only [Option.getD_some]
    cases hk : zs[k]? with
    | none => simp [nl_zero]
    | some z =>
      simp only [Option.getD_some]
      obtain ⟨hil, hie⟩ := List.getElem?_eq_some_iff.1 hi
      obtain ⟨hkl, hke⟩ := List.getElem?_eq_some_iff.1 hk
      obtain ⟨b, o, cs, ha, ⟨a1, n1, c1, rfl, h1⟩, hc⟩ := h.at_ i hil
      rw [hie] at h1
      obtain ⟨b2, o2, cs2, ha2, ⟨s, a3, n3, c3, l, rfl, h3, hv, hn⟩, hc2⟩ := h1.at_ k hkl
      rw [hke] at hv
      exact Nat.le_trans (nl_of h3 (Lib.hid hv)) hn
theorem tabQ_ent2 (Q : List (List Rat)) (r m : Nat) (hr : Q.length = r) (hl : ∀ qs ∈ Q, qs.length = m) : tabQ (entQ Q) r m = Q := by rw [← hr]; exact tabQ_ent Q m hl

end Go.Proofs.YtbhenelehhiakaaGreat
/-
  The references: Copy.
-/
namespace Go.Proofs.YtbhenelehhiakaaGreat
open Go.RowKit

theorem Sl.cellOne2 {α : Type} {r : Rd α} {B : Nat} {w : World} {a : Option Addr} {n c : Nat} {xs : List (List α)} (h : Sl r.slice B w a n c xs) {i : Nat} (hi : i < n) : ∃ b o a1 n1 c1 x, a = some ⟨b, o, none⟩ ∧ b < w.heap.size ∧ xs[i]? = some x ∧ w.cell? ⟨b, o + i, none⟩ = some (.slice a1 n1 c1) ∧ Sl r B w a1 n1 c1 x := by
  have hl : i < xs.length := by rw [h.len]; exact hi
  obtain ⟨b, o, cs, ha, ⟨a1, n1, c1, rfl, h1⟩, hc⟩ := h.at_ i hl
  refine ⟨b, o, a1, n1, c1, _, ha, cel_lt (hc 0 (by simp)), List.getElem?_eq_getElem hl, ?_, h1⟩
  simpa [Rd.slice] using (hc 0 (by simp)).cell
def RCopyI (w : World) (b : Bool) (n : Nat) (l : Nt) (e : Ending) (w' : World) : Prop := ∃ a2 c2, e = .returned (.agg #[.bool b, .slice a2 n c2]) ∧ NatS w.heap.size w' a2 n c2 l ∧ Ext w w'
set_option maxRecDepth 100000 in
set_option maxHeartbeats 4000000 in
theorem r3Copy_any (w : World) (b : Bool) (a : Option Addr) (n c : Nat) (l : Nt) (h : NatS 0 w a n c l) (hn : n ≤ 1099511627776) :
    Calls Tryz.prog 78 #[.agg #[.bool b, .slice a n c]] w (RCopyI w b n l) := by
  obtain ⟨i0, hi, hz0, hz1, hz2⟩ := info_parts info_u32
  go_enter Tryz.func78, Tryz.ntmps78
  go_wp2_with fail
  have p0 := Blk.new w 25 #[.bool b, .slice a n c]
  have r0 := Blk.new (w.alloc (Obj.cells #[.bool b, .slice a n c] 25)) 25 #[.bool false, .slice none 0 0]
  replace p0 := p0.ext ((Below.refl _ _).alloc (Nat.le_refl _) (Obj.cells #[.bool false, .slice none 0 0] 25))
  have hEW : Ext w ((w.alloc (Obj.cells #[.bool b, .slice a n c] 25)).alloc (Obj.cells #[.bool false, .slice none 0 0] 25)) := (((Below.refl _ w).alloc (by simp) _).alloc (by simp) _)
  generalize hgW : (w.alloc (Obj.cells #[.bool b, .slice a n c] 25)).alloc (Obj.cells #[.bool false, .slice none 0 0] 25) = W at *
  clear hgW
  simp only [World.size_alloc] at r0
  have p0_ne_r0 : ¬ w.heap.size = w.heap.size + 1 := by omega
  have r0_ne_p0 : ¬ w.heap.size + 1 = w.heap.size := by omega
  replace p0_0 := p0.cell (i := 0) rfl
  replace p0_1 := p0.cell (i := 1) rfl
  replace r0_0 := r0.cell (i := 0) rfl
  replace r0_1 := r0.cell (i := 1) rfl
  replace r0_f0 := r0.free 0
  replace r0_f1 := r0.free 1
  replace r0_lt := r0.lt
  have hEd : Ext W W.drew := (Below.refl _ _).drew
  replace p0 := p0.ext hEd; replace p0_0 := p0.cell (i := 0) rfl; replace p0_1 := p0.cell (i := 1) rfl; replace r0 := r0.ext hEd; replace r0_0 := r0.cell (i := 0) rfl; replace r0_1 := r0.cell (i := 1) rfl; replace r0_f0 := r0.free 0; replace r0_f1 := r0.free 1; replace r0_lt := r0.lt
  have hE0 := Ext.trans hEW hEd
  have h1 := h.ext (Nat.le_refl _) hE0
  have hrl : w.heap.size + 1 < W.drew.heap.size := r0_lt
  have na : ¬ w.heap.size = w.heap.size + 1 := by omega
  have na' : ¬ w.heap.size + 1 = w.heap.size := by omega
  have hEQ : Ext W.drew (W.alloc (Obj.cells #[] 126)).drew := (Below.refl _ _).alloc (Nat.le_refl _) _
  have hq := p0.ext hEQ
  have hq0 := hq.cell (i := 0) rfl
  have hq1 := hq.cell (i := 1) rfl
  have h2 := h1.ext (Nat.le_refl _) hEQ
  have hB : Blk (W.alloc (Obj.cells #[] 126)).drew W.heap.size 126 (words ([] ++ [])) := Blk.new W _ #[]
  go_region_held3 (fun w' => w'.cell? ⟨w.heap.size, 0, none⟩ = some (.bool b) ∧ w'.cell? ⟨w.heap.size, 1, none⟩ = some (.slice a n c)) (first | exact ⟨p0_0, p0_1⟩ | exact ⟨hq0, hq1⟩ | exact ⟨hw0, hw1⟩ | go_keep)
    (first
    | (refine step_append_src rfl (.tmp 5) (.tmp 7) 23 rfl W.heap.size 126 i0 _ 1 4 under_nat hi hz0 hz1 hz2 rfl (by decide) _ 0 _ rfl (owns_of_blk (l := []) (m := []) (c := 0) hB (Nat.le_refl _) rfl rfl (by omega)) a n c (l.map fun x : Nat => Value.int .u32 (x : Int)) rfl (NatS.src h2).1 (by rw [List.length_map, Nat.mul_one]; exact h2.len) (NatS.src h2).2 (by simp [Value.oneCell']) (by unfold maxLen; omega) (by omega) hEQ.size ?_; intro v' w2 hown' hgrow hat; rw [Nat.zero_add] at hown'; obtain ⟨a5, c5, rfl, h5⟩ := natS_of_owns' (l := l) hown' h.small; have hE2 : Ext w w2 := (Ext.trans hE0 hEQ).grown hgrow (Ext.trans hE0 hEQ).size (fun k e => by cases e; exact hEW.size); have hgE : Ext W w2 := ((Below.refl W.heap.size W).alloc (Nat.le_refl _) (Obj.cells #[] 126)).drew.grown hgrow hEQ.size (fun k e => by cases e; exact Nat.le_refl _); have hw0 := cellE hgE (show W.cell? ⟨w.heap.size, 0, none⟩ = some (.bool b) from p0_0); have hw1 := cellE hgE (show W.cell? ⟨w.heap.size, 1, none⟩ = some (.slice a n c) from p0_1); replace r0 := Blk.ext (show Blk W (w.heap.size + 1) _ _ from r0) hgE; replace r0_0 := r0.cell (i := 0) rfl; replace r0_1 := r0.cell (i := 1) rfl; replace r0_f0 := r0.free 0; replace r0_f1 := r0.free 1; replace r0_lt := r0.lt))
  have HF : Hid (RCopyI w b n l (.returned (.agg #[.bool b, .slice a5 n c5])) ((w2.setCell ⟨w.heap.size + 1, 0, none⟩ (.bool b)).setCell ⟨w.heap.size + 1, 1, none⟩ (.slice a5 n c5))) := Lib.hid ⟨a5, c5, rfl, (h5.mono (Nat.le_refl _) (Kept.trans (kept_set _ _ _ hrl) (kept_set _ _ _ hrl))).mono hEW.size (Kept.refl _ _), Below.setCell (Below.setCell hE2 (p := ⟨w.heap.size + 1, 0, none⟩) (by simp) _) (p := ⟨w.heap.size + 1, 1, none⟩) (by simp) _⟩
  have r02 : Blk (((w2).setCell ⟨w.heap.size + 1, 0, none⟩ (.bool b)).setCell ⟨w.heap.size + 1, 1, none⟩ (.slice a5 n c5)) _ _ #[.bool b, .slice a5 n c5] := ((r0).set 0 (.bool b)).set 1 (.slice a5 n c5)
  have hr00 := r02.cell (i := 0) rfl
  have hr01 := r02.cell (i := 1) rfl
  go_wp2_with fail
  exact bodyPost_ret (v := .agg #[.bool b, .slice a5 n c5]) (by simp [results, Tryz.results78, go_sem, hr00, hr01]) rfl HF.out

def RCopyL (w : World) (n : Nat) (xs : List It) (e : Ending) (w' : World) : Prop := ∃ a2 c2, e = .returned (.slice a2 n c2) ∧ Sl rInt w.heap.size w' a2 n c2 xs ∧ Ext w w'
set_option maxRecDepth 100000 in
set_option maxHeartbeats 8000000 in
theorem r3CopyAll_any (w : World) (a : Option Addr) (n c : Nat) (xs : List It) (h : Sl rInt 0 w a n c xs) (hx : Hid (∀ x ∈ xs, x.2.length ≤ 1099511627776)) (hn : n ≤ 1099511627776) :
    Calls Tryz.prog 79 #[.slice a n c] w (RCopyL w n xs) := by
  obtain ⟨cur, hcur, hmk⟩ := make_any under_ints info_int n n (Nat.le_refl _) (by omega) (by omega)
  have hmk : ∀ w, (Instr.makeSlice 30 (.int .i64 (n : Int)) (.int .i64 (n : Int))).run Tryz.prog w = .ok (.slice (some ⟨w.heap.size, 0, none⟩) n n) (w.alloc (.cells cur 25)) := hmk
  have HCur := Lib.hid hcur
  have HS := Lib.hid h
  have hcap := h.cap
  have hmost := h.most
  have hlen := Lib.hid h.len
  clear hcur h
  have hEA : Ext w (w.alloc (Obj.cells cur 25)) := (Below.refl _ _).alloc (Nat.le_refl _) _
  have HEA := Lib.hid hEA
  have HG0 : Hid (Grp rInt w.heap.size 25 (w.alloc (Obj.cells cur 25)) (.slice (some ⟨w.heap.size, 0, none⟩) 0 n) 0 [] []) := Lib.hid ⟨rfl, rfl, World.ownsRow_made w cur n (Nat.le_refl _) (by unfold maxLen; omega) HCur.out, fun k hk => absurd hk (by simp)⟩
  clear hEA
  go_enter Tryz.func79, Tryz.ntmps79
  go_wp2_with fail
  go_loopg [11] n (fun k vi w2 => ∃ (j : Nat), j ≤ n ∧ k = n - j ∧ vi = .int .i64 (j : Int) ∧ Hid (∃ css, Grp rInt w.heap.size 25 w2 (.slice (some ⟨w.heap.size, 0, none⟩) j n) j (xs.take j) css) ∧ Hid (Ext w w2))
  case atStart => exact ⟨0, Nat.zero_le _, by omega, rfl, Lib.hid ⟨[], HG0.out⟩, HEA⟩
  case round =>
    clear HG0 HEA
    obtain ⟨j, hj, hk2, rfl, HGj, HEj⟩ := hrel
    by_cases hjc : j < n
    · obtain ⟨css, hGj⟩ := HGj.out
      have hgl := hGj.cell.1
      obtain ⟨b7, o7, s7, a7, n7, c7, l7, rfl, hb7, hz7, hc9, hc10, h7⟩ := (HS.out.ext (Nat.le_refl _) HEj.out).getIt hjc
      obtain ⟨hkl, hze⟩ := List.getElem?_eq_some_iff.1 hz7
      have HTK : Hid (xs.take (j + 1) = xs.take j ++ [(s7, l7)]) := Lib.hid (by rw [List.take_succ_eq_append_getElem hkl, hze])
      have hn7 : n7 ≤ 1099511627776 := by rw [← h7.len]; exact hx.out _ (List.mem_of_getElem? hz7)
      have H7 := Lib.hid h7
      have hjc' : (j : Int) < (n : Int) := by omega
      have hszr := HEj.out.size
      clear hz7 hze h7 hkl
      go_wp2_with fail
      have u := Blk.new wr 25 #[.bool s7, .slice a7 n7 c7]
      have hEW9 : Ext wr (wr.alloc (Obj.cells #[.bool s7, .slice a7 n7 c7] 25)) := ((Below.refl _ wr).alloc (by simp) _)
      generalize hgW9 : wr.alloc (Obj.cells #[.bool s7, .slice a7 n7 c7] 25) = W9 at *
      clear hgW9
      replace u_0 := u.cell (i := 0) rfl
      replace u_1 := u.cell (i := 1) rfl
      (with_reducible refine (r3Copy_any W9 s7 a7 n7 c7 l7 (H7.out.ext (Nat.le_refl _) hEW9) hn7).mono ?_)
      rintro e w5 ⟨a8, c8, rfl, h8, hE9⟩
      have hE5 := Ext.trans hEW9 hE9
      have hsz5 := hE5.size
      have hG5 := hGj.keep hE5.size (fun b _ h2 => hE5.block b h2)
      obtain ⟨hg1, hg2, hg3⟩ := hG5.cell
      have q0 := hg3 (j * 2) (show j * 2 < n * 2 by omega)
      have q1 := hg3 (j * 2 + 1) (show j * 2 + 1 < n * 2 by omega)
      obtain ⟨⟨u0, s0⟩, f0⟩ := q0
      obtain ⟨⟨u1, s1⟩, f1⟩ := q1
      have HP := Lib.hid (hG5.put hjc (x := (s7, l7)) (cs := [.bool s7, .slice a8 n7 c8]) (Bx := wr.heap.size) (rInt_mk (h8.mono hEW9.size (Kept.refl _ _))) hszr hgl)
      have HEP := Lib.hid (Ext.trans HEj.out hE5)
      have HE8 := Lib.hid (Below.setCell (Below.setCell HEP.out (p := ⟨w.heap.size, j * 2, none⟩) (Nat.le_refl _) (.bool s7)) (p := ⟨w.heap.size, j * 2 + 1, none⟩) (Nat.le_refl _) (.slice a8 n7 c8))
      clear hG5 hg3 h8 hE5 hE9 hEW9 u u_0 u_1 hc9 hc10 hGj
      go_wp2_with fail
      go_roundg (n - (j + 1))
      case measure => omega
      case rel => exact ⟨j + 1, by omega, rfl, by go_num, Lib.hid ⟨css ++ [[.bool s7, .slice a8 n7 c8]], by rw [HTK.out]; exact HP.out⟩, HE8⟩
    · obtain rfl : j = n := by omega
      obtain ⟨css, hGj⟩ := HGj.out
      obtain ⟨ar, cr, hv, hsr⟩ := hGj.sl
      cases hv
      rw [List.take_of_length_le (by rw [hlen.out]; exact Nat.le_refl _)] at hsr
      have HSR := Lib.hid hsr
      clear hGj hsr
      go_wp2_with fail
      go_ret
      exact ⟨_, _, rfl, HSR.out, HEj.out⟩
def RCopyM (w : World) (b : Bool) (n n2 : Nat) (l : Nt) (xss : List (List It)) (e : Ending) (w' : World) : Prop := ∃ a c a2 c2, e = .returned (.agg #[.bool b, .slice a n c, .slice a2 n2 c2]) ∧ NatS w.heap.size w' a n c l ∧ Sl rInts w.heap.size w' a2 n2 c2 xss ∧ Ext w w'
set_option maxRecDepth 100000 in
set_option maxHeartbeats 8000000 in
theorem r11Copy_any (w : World) (b : Bool) (a a2 : Option Addr) (n c n2 c2 : Nat) (l : Nt) (xss : List (List It)) (h : NatS 0 w a n c l) (h2 : Sl rInts 0 w a2 n2 c2 xss) (hx : Hid (∀ xs ∈ xss, xs.length ≤ 1099511627776 ∧ ∀ x ∈ xs, x.2.length ≤ 1099511627776)) (hn : n ≤ 1099511627776) (hn2 : n2 ≤ 1099511627776) :
    Calls Tryz.prog 22 #[.agg #[.bool b, .slice a n c, .slice a2 n2 c2]] w (RCopyM w b n n2 l xss) := by
  have HS := Lib.hid h2
  have hcap := h2.cap
  have hmost := h2.most
  have hlen := Lib.hid h2.len
  clear h2
  go_enter Tryz.func22, Tryz.ntmps22
  go_wp2_with fail
  have p0 := Blk.new w 28 #[.bool b, .slice a n c, .slice a2 n2 c2]
  have r0 := Blk.new (w.alloc (Obj.cells #[.bool b, .slice a n c, .slice a2 n2 c2] 28)) 28 #[.bool false, .slice none 0 0, .slice none 0 0]
  replace p0 := p0.ext ((Below.refl _ _).alloc (Nat.le_refl _) (Obj.cells #[.bool false, .slice none 0 0, .slice none 0 0] 28))
  have hEW : Ext w ((w.alloc (Obj.cells #[.bool b, .slice a n c, .slice a2 n2 c2] 28)).alloc (Obj.cells #[.bool false, .slice none 0 0, .slice none 0 0] 28)) := (((Below.refl _ w).alloc (by simp) _).alloc (by simp) _)
  generalize hgW : (w.alloc (Obj.cells #[.bool b, .slice a n c, .slice a2 n2 c2] 28)).alloc (Obj.cells #[.bool false, .slice none 0 0, .slice none 0 0] 28) = W at *
  clear hgW
  simp only [World.size_alloc] at r0
  have p0_ne_r0 : ¬ w.heap.size = w.heap.size + 1 := by omega
  have r0_ne_p0 : ¬ w.heap.size + 1 = w.heap.size := by omega
  replace p0_0 := p0.cell (i := 0) rfl
  replace p0_1 := p0.cell (i := 1) rfl
  replace p0_2 := p0.cell (i := 2) rfl
  replace r0_0 := r0.cell (i := 0) rfl
  replace r0_1 := r0.cell (i := 1) rfl
  replace r0_2 := r0.cell (i := 2) rfl
  have hW : w.heap.size + 1 < W.heap.size := r0.lt
  (with_reducible refine (r3Copy_any W b a n c l (h.ext (Nat.le_refl _) hEW) hn).mono ?_)
  rintro e w1 ⟨a5, c5, rfl, h5, hE1⟩
  replace p0 := p0.ext hE1; replace p0_0 := p0.cell (i := 0) rfl; replace p0_1 := p0.cell (i := 1) rfl; replace p0_2 := p0.cell (i := 2) rfl
  have HR0 := Lib.hid (r0.ext hE1)
  have H5 := Lib.hid h5
  have HE1 := Lib.hid (Ext.trans hEW hE1)
  have hsz1 := hE1.size
  clear h5 hE1 hEW r0 r0_0 r0_1 r0_2 h
  go_upto_region 2 with (fail)
  have m := Blk.new w1 28 #[.bool b, .slice a5 n c5, .slice none 0 0]
  have hEW2 : Ext w1 (w1.alloc (Obj.cells #[.bool b, .slice a5 n c5, .slice none 0 0] 28)) := ((Below.refl _ w1).alloc (by simp) _)
  generalize hgW2 : w1.alloc (Obj.cells #[.bool b, .slice a5 n c5, .slice none 0 0] 28) = W2 at *
  clear hgW2
  replace m_0 := m.cell (i := 0) rfl
  replace m_1 := m.cell (i := 1) rfl
  replace m_2 := m.cell (i := 2) rfl
  replace p0 := p0.ext hEW2; replace p0_0 := p0.cell (i := 0) rfl; replace p0_1 := p0.cell (i := 1) rfl; replace p0_2 := p0.cell (i := 2) rfl
  have HM0 := Lib.hid m
  have HEW2 := Lib.hid hEW2
  have hszm : w1.heap.size < W2.heap.size := m.lt
  clear m m_0 m_1 m_2 hEW2
  go_wp2_with fail
  clear p0 p0_0 p0_1 p0_2
  go_loopg [13] n2 (fun k vi wr => ∃ (j : Nat), j ≤ n2 ∧ k = n2 - j ∧ vi = .int .i64 (j : Int) ∧ Hid (∃ vo css, Blk wr w1.heap.size 28 #[.bool b, .slice a5 n c5, vo] ∧ Grp rInts W2.heap.size 30 wr vo j (xss.take j) css) ∧ Hid (Ext w1 wr) ∧ W2.heap.size ≤ wr.heap.size)
  case atStart => exact ⟨0, Nat.zero_le _, by omega, rfl, Lib.hid ⟨_, [], HM0.out, Grp.nil _ _ _ _⟩, HEW2, Nat.le_refl _⟩
  case round =>
    clear HM0 HEW2
    obtain ⟨j, hj, hk, rfl, HGj, HEj, hszj⟩ := hrel
    by_cases hjn : j < n2
    · obtain ⟨vo, css, m, hG⟩ := HGj.out
      obtain ⟨b5, o5, a1, n1, c1, xs, rfl, hb5, hx1, hc5, hX⟩ := (HS.out.ext (Nat.le_refl _) (Ext.trans HE1.out HEj.out)).cellOne2 hjn
      obtain ⟨hil, hxe⟩ := List.getElem?_eq_some_iff.1 hx1
      have HTS : Hid (xss.take (j + 1) = xss.take j ++ [xs]) := Lib.hid (by rw [List.take_succ_eq_append_getElem hil, hxe])
      have hxm := hx.out xs (List.mem_of_getElem? hx1)
      have hn1 : n1 ≤ 1099511627776 := by rw [← hX.len]; exact hxm.1
      have HXX := Lib.hid hxm.2
      have hlt := hG.own.lt
      have HG := Lib.hid hG
      have HX := Lib.hid hX
      clear hX hx1 hil hxe hxm hG
      skip
      replace m_0 := m.cell (i := 0) rfl
      replace m_1 := m.cell (i := 1) rfl
      replace m_2 := m.cell (i := 2) rfl
      replace m_f0 := m.free 0
      replace m_f1 := m.free 1
      replace m_f2 := m.free 2
      replace m_lt := m.lt
      go_wp2_with fail
      have hd : Ext wr wr.drew := (Below.refl _ _).drew
      replace m := m.ext hd; replace m_0 := m.cell (i := 0) rfl; replace m_1 := m.cell (i := 1) rfl; replace m_2 := m.cell (i := 2) rfl; replace m_f0 := m.free 0; replace m_f1 := m.free 1; replace m_f2 := m.free 2; replace m_lt := m.lt
      have h1f := HX.out.ext (Nat.le_refl _) hd
      have hE9 := hd
      have hsz9 := hE9.size
      obtain ⟨i0, hi0, hz0, hz1, hz2⟩ := info_parts info_ints
      have HG9 : Hid (Grp rInts W2.heap.size 30 wr.drew vo j (xss.take j) css) := Lib.hid (HG.out.keep hE9.size (fun b _ h2 => hE9.block b h2))
      clear hc5 hd
      go_region_law (first
        | (go_simp; go_at_call 79; (with_reducible refine (r3CopyAll_any _ a1 n1 c1 xs h1f HXX hn1).mono ?_); rintro e w6 ⟨a10, c10, rfl, h10, hE1⟩; replace m := m.ext hE1; replace m_0 := m.cell (i := 0) rfl; replace m_1 := m.cell (i := 1) rfl; replace m_2 := m.cell (i := 2) rfl; replace m_f0 := m.free 0; replace m_f1 := m.free 1; replace m_f2 := m.free 2; replace m_lt := m.lt; go_wp2_with fail)
        | (have hEA : Ext w6 (w6.alloc (Obj.cells #[.slice a10 n1 c10] 30)) := (Below.refl _ _).alloc (Nat.le_refl _) _
           have hEB := Ext.trans hE1 hEA
           have hG10 := HG9.out.keep hEB.size (fun b _ h2 => hEB.block b h2)
           have hbl := Blk.new w6 30 #[.slice a10 n1 c10]
           have hnews : ∀ ad, some (⟨w6.heap.size, 0, none⟩ : Addr) = some ad → ∀ (j' : Nat) (u : Value), [Value.slice a10 n1 c10][j']? = some u → (w6.alloc (Obj.cells #[.slice a10 n1 c10] 30)).cell? (ad.add j') = some u := (by intro ad e j' u hu; cases e; match j', hu with | 0, hu => (cases hu; exact hbl.cell (i := 0) rfl) | k + 1, hu => simp at hu)
           refine step_append_src rfl (.tmp 18) (.tmp 21) 26 rfl W2.heap.size 30 i0 _ 1 24 under_intss hi0 hz0 hz1 hz2 rfl (by decide) vo j _ rfl hG10.own (some ⟨w6.heap.size, 0, none⟩) 1 1 [.slice a10 n1 c10] rfl (by simp) rfl hnews (by simp [Value.oneCell']) (by unfold maxLen; omega) (by omega) (by have := hEB.size; omega) ?_
           intro v' w7 hown' hgrow hat
           obtain ⟨g', cap', rfl⟩ := ownsRow_succ hown'
           replace m := Blk.grown (m.ext hEA) hgrow (fun e => by have := (hlt _ e.symm).1; omega)
           replace m_0 := m.cell (i := 0) rfl
           replace m_1 := m.cell (i := 1) rfl
           replace m_2 := m.cell (i := 2) rfl
           replace m_f0 := m.free 0
           replace m_f1 := m.free 1
           replace m_f2 := m.free 2
           replace m_lt := m.lt))
      all_goals
        have HNx : Hid (rInts.ok wr.drew.heap.size (w6.alloc (Obj.cells #[.slice a10 n1 c10] 30)) [.slice a10 n1 c10] xs) := Lib.hid ⟨a10, n1, c10, rfl, h10.ext (Nat.le_refl _) hEA⟩
        have HGa := Lib.hid (hG10.add hown' hgrow hat (x := xs) HNx.out (Nat.le_trans hszj hsz9) (fun k e => Nat.lt_of_lt_of_le (hlt k e).2 hsz9))
        have HKa := Lib.hid (HGa.out.keep (w' := w7.setCell ⟨w1.heap.size, 2, none⟩ (.slice (some ⟨g', 0, none⟩) (j + 1) cap')) (by simp [World.setCell]) (fun b h1 _ => Below.heap_setCell _ _ _ b (by simp; omega)))
        have HMz := Lib.hid (m.set 2 (.slice (some ⟨g', 0, none⟩) (j + 1) cap'))
        have hEC := Ext.trans HEj.out (Ext.trans hE9 hEB)
        have hEBs := hEB.size
        have hgs := hgrow.size
        have HEz := Lib.hid ((hEC.grown hgrow hEC.size (fun k e => by have := (hlt k e).1; omega)).setCell (p := ⟨w1.heap.size, 2, none⟩) (Nat.le_refl _) (.slice (some ⟨g', 0, none⟩) (j + 1) cap'))
        have hszz : W2.heap.size ≤ (w7.setCell ⟨w1.heap.size, 2, none⟩ (.slice (some ⟨g', 0, none⟩) (j + 1) cap')).heap.size := by simp only [World.setCell, Array.size_modify]; omega
        clear hG10 h1f h10 hEA hEB hE1 hE9 hEC hown' hgrow hat hnews hbl
        go_wp2_with fail
        go_roundg (n2 - (j + 1))
        case measure => omega
        case rel => exact ⟨j + 1, by omega, rfl, by go_num, Lib.hid ⟨_, css ++ [[.slice a10 n1 c10]], HMz.out, by rw [HTS.out]; exact HKa.out⟩, HEz, hszz⟩
    · obtain rfl : j = n2 := by omega
      obtain ⟨vo, css, m, hG⟩ := HGj.out
      rw [List.take_of_length_le (by rw [hlen.out]; exact Nat.le_refl _)] at hG
      obtain ⟨aa, cc, rfl, hsl⟩ := hG.sl
      have r0 := HR0.out.ext HEj.out
      skip
      skip
      replace m_0 := m.cell (i := 0) rfl
      replace m_1 := m.cell (i := 1) rfl
      replace m_2 := m.cell (i := 2) rfl
      replace r0_0 := r0.cell (i := 0) rfl
      replace r0_1 := r0.cell (i := 1) rfl
      replace r0_2 := r0.cell (i := 2) rfl
      replace r0_f0 := r0.free 0
      replace r0_f1 := r0.free 1
      replace r0_f2 := r0.free 2
      replace r0_lt := r0.lt
      have h5 := H5.out.ext (Nat.le_refl _) HEj.out
      have HF : Hid (RCopyM w b n j l xss (.returned (.agg #[.bool b, .slice a5 n c5, .slice aa j cc])) (((wr.setCell ⟨w.heap.size + 1, 0, none⟩ (.bool b)).setCell ⟨w.heap.size + 1, 1, none⟩ (.slice a5 n c5)).setCell ⟨w.heap.size + 1, 2, none⟩ (.slice aa j cc))) := Lib.hid ⟨a5, c5, aa, cc, rfl, (h5.mono (Nat.le_refl _) (kept_set3 _ _ _ _ hW)).mono (by omega) (Kept.refl _ _), (hsl.mono (Nat.le_refl _) (kept_set3 _ _ _ _ (by omega))).mono (by omega) (Kept.refl _ _), ext_set3 (Ext.trans HE1.out HEj.out) _ _ _ (by omega)⟩
      clear hG hsl h5 HGj
      have r02 : Blk ((((wr).setCell ⟨w.heap.size + 1, 0, none⟩ (.bool b)).setCell ⟨w.heap.size + 1, 1, none⟩ (.slice a5 n c5)).setCell ⟨w.heap.size + 1, 2, none⟩ (.slice aa j cc)) _ _ #[.bool b, .slice a5 n c5, .slice aa j cc] := (((r0).set 0 (.bool b)).set 1 (.slice a5 n c5)).set 2 (.slice aa j cc)
      have hr00 := r02.cell (i := 0) rfl
      have hr01 := r02.cell (i := 1) rfl
      have hr02 := r02.cell (i := 2) rfl
      go_wp2_with fail
      exact bodyPost_ret (v := .agg #[.bool b, .slice a5 n c5, .slice aa j cc]) (by simp [results, Tryz.results22, go_sem, hr00, hr01, hr02]) rfl HF.out
end Go.Proofs.YtbhenelehhiakaaGreat
