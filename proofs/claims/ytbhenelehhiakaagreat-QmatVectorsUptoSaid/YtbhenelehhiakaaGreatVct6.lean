/-
  A part.
-/
import Derived.Test.YtbhenelehhiakaaGreatVct5
import Derived.RangeFuncNested
import Derived.RangeFuncBound
import Derived.RangeFuncCalls
import Derived.RangeFuncLeaves
import Derived.RangeFuncBox
import Derived.Shelf.Abstract
import Derived.Shelf.RegionOpen
import Derived.OwnWalkIn
import Derived.TacticsInMore
import Derived.LoopNIn
import Derived.LoopIn
import Derived.Sort.LoopGhostIn
import Derived.Sort.CutIn
import Derived.Maps.AppendAt
import Derived.Maps.OwnIn
set_option linter.unusedVariables false
set_option linter.unusedSimpArgs false
namespace Go.Proofs.YtbhenelehhiakaaGreat
open Go.RowKit Go.Shelf
attribute [local go_sem] Oper.semAt_some
structure IntAt (w : World) where
 b : Bool
 a : Option Addr
 n : Nat
 c : Nat
 l : Nt
 h : NatS 0 w a n c l
 hn : n ≤ 8796093022208
def IntAt.v {w : World} (x : IntAt w) : Value := .agg #[.bool x.b, .slice x.a x.n x.c]
def IntAt.z {w : World} (x : IntAt w) : Int := ival x.b x.l
structure RowAt (w : World) (a : Option Addr) (n c : Nat) (xs : List (IntAt w)) : Prop where
 len : xs.length = n
 most : n ≤ 1099511627776
 cells : 0 < n → ∃ b o, a = some ⟨b, o, none⟩ ∧ b < w.heap.size ∧ ∀ k (hk : k < xs.length), w.cell? ⟨b, o + k * 2, none⟩ = some (.bool xs[k].b) ∧ w.cell? ⟨b, o + k * 2 + 1, none⟩ = some (.slice xs[k].a xs[k].n xs[k].c)
structure GridAt (w : World) (a : Option Addr) (n c : Nat) (xss : List (List (IntAt w))) : Prop where
 len : xss.length = n
 most : n ≤ 1099511627776
 cells : 0 < n → ∃ b o, a = some ⟨b, o, none⟩ ∧ b < w.heap.size ∧ ∀ i (hi : i < xss.length), ∃ a1 n1 c1, w.cell? ⟨b, o + i, none⟩ = some (.slice a1 n1 c1) ∧ RowAt w a1 n1 c1 xss[i]
theorem flat_take {α : Type} (xss : List (List α)) (i : Nat) (hi : i < xss.length) : (xss.take (i + 1)).flatten = (xss.take i).flatten ++ xss[i] := by
 rw [List.take_succ_eq_append_getElem hi, List.flatten_append]; simp
set_option maxRecDepth 100000 in
set_option maxHeartbeats 2000000 in
theorem each1_in (w0 : World) (n : Nat) (hn : 1 ≤ n) (l Bs : Nat) (a : Option Addr) (m c : Nat) (xss : List (List (IntAt w0))) (hG : GridAt w0 a m c xss) (J Jx : List (IntAt w0) → World → Prop)
  (hY : ∀ pre x W, J pre W → pre.length < xss.flatten.length → YieldAt Fence.wide (n - 1) Tryz.prog l #[x.v] W fun e W' =>
   (e = .returned (.bool true) ∧ J (pre ++ [x]) W' ∧ Below w0.heap.size W W') ∨ (e = .returned (.bool false) ∧ Jx (pre ++ [x]) W'))
  (W : World) (hW : Below w0.heap.size w0 W) (hBs : W.cell? ⟨Bs, 0, none⟩ = some (.slice a m c)) (h0 : J [] W) (hJ : AbidesFrom W.heap.size J) :
  CallsIn Fence.wide n Tryz.prog 102 #[.func (.yield l) #[] #[], .pointer (some ⟨Bs, 0, none⟩)] W fun e W' => (∃ v, e = .returned v) ∧
   ((∃ ys, ys = xss.flatten ∧ J ys W') ∨ (∃ pre, pre <+: xss.flatten ∧ Jx pre W')) := by
 have HG := Lib.hid hG
 have hm := hG.most
 clear hG
 refine callsIn_of_wp Tryz.func102 rfl trivial ?_ rfl
 simp only [Tryz.ntmps102, List.size_toArray, List.length_cons, List.length_nil, Nat.reduceAdd, Nat.reduceSub, Array.replicate_succ, Array.replicate_zero, List.push_toArray, List.append_toArray, List.nil_append, List.cons_append]
 gi_wp2
 gi_loopg [9] m (fun k vi wr => ∃ i : Nat, i ≤ m ∧ k = m - i ∧ vi = .int .i64 (i : Int) ∧ Hid (J (xss.take i).flatten wr ∧ Below w0.heap.size w0 wr ))
 case atStart => exact ⟨0, Nat.zero_le _, rfl, rfl, Lib.hid ⟨h0, hW⟩⟩
 case round =>
  obtain ⟨i, hi, hk, rfl, hI⟩ := hrel
  by_cases him : i < m
  ·obtain ⟨b, o, rfl, hb, hcs⟩ := HG.out.cells (by omega)
   have hil : i < xss.length := by rw [HG.out.len]; exact him
   obtain ⟨a1, n1, c1, hc1, hrow⟩ := hcs i hil
   have hc2 := (hI.out.2.cell (p := ⟨b, o + i, none⟩) hb).trans hc1
   have HR := Lib.hid hrow
   have hn1 := hrow.most
   clear hc1 hcs hrow
   have hrl := HR.out.len
   have HX := Lib.hid (flat_take xss i hil)
   have HL : Hid ((xss.take i).flatten.length + xss[i].length ≤ xss.flatten.length) := Lib.hid (by
    have := congrArg List.length HX.out
    rw [List.length_append] at this
    rw [← this]
    conv => rhs; rw [← List.take_append_drop (i + 1) xss]
    rw [List.flatten_append, List.length_append]; omega)
   have HP : Hid ((xss.take i).flatten ++ xss[i] <+: xss.flatten) := Lib.hid (by
    rw [← HX.out]
    conv => rhs; rw [← List.take_append_drop (i + 1) xss]
    rw [List.flatten_append]; exact List.prefix_append _ _)
   generalize xss[i]'hil = xs at *
   generalize (xss.take i).flatten = pre at *
   have hE := hI.out.2
   have hJ0 := hI.out.1
   gi_wp2
   gi_loopg [15] n1 (fun k vi w2 => ∃ j : Nat, j ≤ n1 ∧ k = n1 - j ∧ vi = .int .i64 (j : Int) ∧ Hid (J (pre ++ xs.take j) w2 ∧ Below w0.heap.size w0 w2))
   case atStart => exact ⟨0, Nat.zero_le _, rfl, rfl, Lib.hid ⟨by simpa using hJ0, hE⟩⟩
   case round =>
    obtain ⟨j, hj, hk2, rfl, hI2⟩ := hrel
    by_cases hjn : j < n1
    ·obtain ⟨b2, o2, rfl, hb2, hcs⟩ := HR.out.cells (by omega)
     have hjl : j < xs.length := by rw [hrl]; exact hjn
     obtain ⟨hd1, hd2⟩ := hcs j hjl
     have hd1 := (hI2.out.2.cell (p := ⟨b2, o2 + j * 2, none⟩) hb2).trans hd1
     have hd2 := (hI2.out.2.cell (p := ⟨b2, o2 + j * 2 + 1, none⟩) hb2).trans hd2
     have HT : Hid (pre ++ xs.take (j + 1) = pre ++ xs.take j ++ [xs[j]]) := Lib.hid (by rw [List.take_succ_eq_append_getElem hjl, List.append_assoc])
     have HPJ : Hid (pre ++ xs.take (j + 1) <+: xss.flatten) := Lib.hid (List.IsPrefix.trans (by rw [List.prefix_append_right_inj]; exact List.take_prefix _ _) HP.out)
     have hlen : (pre ++ xs.take j).length < xss.flatten.length := by
      have := HL.out
      rw [List.length_append, List.length_take]; omega
     clear hcs
     generalize xs[j] = x at *
     obtain ⟨fn, tmps, assign, body, hy, hR⟩ := hY (pre ++ xs.take j) x _ (hJ _ _ _ none hI2.out.1 (World.grownBy_alloc wr (Obj.cells #[.bool x.b, .slice x.a x.n x.c] 25) none) (fun r e => by cases e)) hlen
     dsimp only [IntAt.v] at hy
     have hE3 := hI2.out.2
     gi_wp2
     refine hR.mono ?_
     rintro e W3 (⟨rfl, hJ3, hk3⟩ | ⟨rfl, hJx3⟩)
     ·gi_wp2
      gi_roundg (n1 - (j + 1))
      case measure => omega
      case rel => exact ⟨j + 1, by omega, rfl, by go_num, Lib.hid ⟨by rw [HT.out]; exact hJ3, Below.trans hE3 (Below.trans ((Below.refl _ _).alloc hE3.size _) hk3)⟩⟩
     ·gi_wp2
      refine bodyPost_ret (results_none rfl _ _ _) rfl ?_
      exact ⟨⟨_, rfl⟩, .inr ⟨_, HPJ.out, by rw [HT.out]; exact hJx3⟩⟩
    ·obtain rfl : j = n1 := by omega
     have hJ4 := hI2.out.1
     have hE4 := hI2.out.2
     rw [List.take_of_length_le (by omega)] at hJ4
     gi_wp2
     gi_roundg (m - (i + 1))
     case measure => omega
     case rel => exact ⟨i + 1, by omega, rfl, by go_num, Lib.hid ⟨by rw [HX.out]; exact hJ4, hE4⟩⟩
  ·obtain rfl : i = m := by omega
   have hJ5 := hI.out.1
   rw [List.take_of_length_le (by rw [HG.out.len]; omega)] at hJ5
   gi_wp2
   go_end0
   exact ⟨⟨_, rfl⟩, .inl ⟨_, rfl, hJ5⟩⟩
theorem each_stops (w0 w : World) (n : Nat) (hn : 1 ≤ n) (Bs : Nat) (a : Option Addr) (m c : Nat) (xss : List (List (IntAt w0))) (hG : GridAt w0 a m c xss) (hw : Below w0.heap.size w0 w) (hBs : Bs < w.heap.size) (hc : w.cell? ⟨Bs, 0, none⟩ = some (.slice a m c)) :
  SeqStopsK Fence.wide n Tryz.prog 102 #[.pointer (some ⟨Bs, 0, none⟩)] (fun x : IntAt w0 => #[x.v]) (Below w0.heap.size) (fun ys => ys = xss.flatten) (fun pre => pre <+: xss.flatten) xss.flatten.length w := fun l J Jx W hW hJ _ hY h0 =>
 each1_in w0 n hn l Bs a m c xss hG J Jx hY W (hw.trans (hW.mono hw.size)) ((hW.cell (p := ⟨Bs, 0, none⟩) hBs).trans hc) h0 hJ
set_option maxHeartbeats 1000000 in
theorem gridEach_any (a : Option Addr) (m c : Nat) (w : World) :
  Calls Tryz.prog 58 #[.slice a m c] w fun e w' => e = .returned (.func (.func 102) #[] #[.pointer (some ⟨w.heap.size, 0, none⟩)]) ∧ w' = w.alloc (.cells #[.slice a m c] 91) := by
 go_enter Tryz.func58, Tryz.ntmps58
 go_wp2_with fail
 go_ret
 exact ⟨rfl, rfl⟩
end Go.Proofs.YtbhenelehhiakaaGreat
namespace Go.Proofs.YtbhenelehhiakaaGreat
open Go.RowKit
theorem NatS.set {B : Nat} {w : World} {a : Option Addr} {n c : Nat} {l : Nt} (h : NatS B w a n c l) {g i : Nat} {v0 : Value} (hv : w.cell? ⟨g, i, none⟩ = some v0) (hne : ∀ x : Int, v0 ≠ .int .u32 x) (v : Value) : NatS B (w.setCell ⟨g, i, none⟩ v) a n c l :=
 ⟨h.len, h.cap, h.most, h.nil, fun k hk => by
  obtain ⟨b, o, cs, ha, hr, hc⟩ := h.at_ k hk
  refine ⟨b, o, cs, ha, hr, fun j hj => ?_⟩
  obtain ⟨h1, h2, h3⟩ := hc j hj
  have hcs := hr.1
  have hcj : cs[j] = .int .u32 ((l[k] : Nat) : Int) := by
   subst hcs
   have : j = 0 := by simp at hj; omega
   subst this; rfl
  refine ⟨h1, ?_, by rw [World.frozen?_setCell]; exact h3⟩
  rw [World.cell?_setCell_other]
  ·exact h2
  ·intro e
   have e2 := congrArg w.cell? e
   rw [hv, h2, hcj] at e2
   cases e2
   exact hne _ rfl⟩
def rIntK (K : Nat) : Rd Int where
 size := 2
 ok B w cs z := ∃ b a n c l, cs = [.bool b, .slice a n c] ∧ NatS B w a n c l ∧ ival b l = z ∧ n ≤ K
 len h := by obtain ⟨b, a, n, c, l, h, _⟩ := h; rw [h]; rfl
 mono h hB hk := by
  obtain ⟨b, a, n, c, l, h, hs, hz, hn⟩ := h
  exact ⟨b, a, n, c, l, h, hs.mono hB hk, hz, hn⟩
def rRatK (K : Nat) : Rd Rat where
 size := 4
 ok B w cs q := ∃ b a n c b2 a2 n2 c2, cs = [.bool b, .slice a n c, .bool b2, .slice a2 n2 c2] ∧ ∃ l l2, NatS B w a n c l ∧ NatS B w a2 n2 c2 l2 ∧ ival b2 l2 ≠ 0 ∧ ratv (ival b l) (ival b2 l2) = q ∧ n ≤ K ∧ n2 ≤ K
 len h := by obtain ⟨b, a, n, c, b2, a2, n2, c2, h, _⟩ := h; rw [h]; rfl
 mono h hB hk := by
  obtain ⟨b, a, n, c, b2, a2, n2, c2, h, l, l2, h1, h2, h3⟩ := h
  exact ⟨b, a, n, c, b2, a2, n2, c2, h, l, l2, h1.mono hB hk, h2.mono hB hk, h3⟩
theorem Sl.get {α : Type} {r : Rd α} {B : Nat} {w : World} {a : Option Addr} {n c : Nat} {xs : List α} (h : Sl r B w a n c xs) {i : Nat} (hi : i < n) (hs : 0 < r.size) : ∃ b o cs x, a = some ⟨b, o, none⟩ ∧ b < w.heap.size ∧ xs[i]? = some x ∧ r.ok B w cs x ∧ ∀ j (hj : j < cs.length), w.cell? ⟨b, o + i * r.size + j, none⟩ = some cs[j] := by
 have hl : i < xs.length := by rw [h.len]; exact hi
 obtain ⟨b, o, cs, ha, hr, hc⟩ := h.at_ i hl
 have := r.len hr
 exact ⟨b, o, cs, _, ha, cel_lt (hc 0 (by omega)), List.getElem?_eq_getElem hl, hr, fun j hj => (hc j hj).cell⟩
theorem Sl.getInt {K B : Nat} {w : World} {a : Option Addr} {n c : Nat} {xs : List Int} (h : Sl (rIntK K) B w a n c xs) {i : Nat} (hi : i < n) : ∃ b o s a1 n1 c1 l z, a = some ⟨b, o, none⟩ ∧ b < w.heap.size ∧ xs[i]? = some z ∧ w.cell? ⟨b, o + i * 2, none⟩ = some (.bool s) ∧ w.cell? ⟨b, o + i * 2 + 1, none⟩ = some (.slice a1 n1 c1) ∧ NatS B w a1 n1 c1 l ∧ ival s l = z ∧ n1 ≤ K := by
 obtain ⟨b, o, cs, z, h1, h2, h3, ⟨s, a1, n1, c1, l, rfl, h4, h5, h6⟩, h7⟩ := h.get hi (by show 0 < _; simp [rIntK, rRatK])
 exact ⟨b, o, s, a1, n1, c1, l, z, h1, h2, h3, h7 0 (by simp), h7 1 (by simp), h4, h5, h6⟩
theorem Sl.getRat {K B : Nat} {w : World} {a : Option Addr} {n c : Nat} {xs : List Rat} (h : Sl (rRatK K) B w a n c xs) {i : Nat} (hi : i < n) : ∃ b o s a1 n1 c1 s2 a2 n2 c2 q, a = some ⟨b, o, none⟩ ∧ b < w.heap.size ∧ xs[i]? = some q ∧ w.cell? ⟨b, o + i * 4, none⟩ = some (.bool s) ∧ w.cell? ⟨b, o + i * 4 + 1, none⟩ = some (.slice a1 n1 c1) ∧ w.cell? ⟨b, o + i * 4 + 2, none⟩ = some (.bool s2) ∧ w.cell? ⟨b, o + i * 4 + 3, none⟩ = some (.slice a2 n2 c2) ∧ RatS K w s a1 n1 c1 s2 a2 n2 c2 q := by
 obtain ⟨b, o, cs, q, h1, h2, h3, ⟨s, a1, n1, c1, s2, a2, n2, c2, rfl, l, l2, h4, h5, h6⟩, h7⟩ := h.get hi (by show 0 < _; simp [rIntK, rRatK])
 exact ⟨b, o, s, a1, n1, c1, s2, a2, n2, c2, q, h1, h2, h3, h7 0 (by simp), h7 1 (by simp), h7 2 (by simp), h7 3 (by simp), l, l2, Sl.zero h4, Sl.zero h5, h6⟩
def lcms (zs : List Int) : Nat := zs.foldl (fun (m : Nat) z => Nat.lcm m z.natAbs) 1
theorem lcms_snoc (zs : List Int) (z : Int) : lcms (zs ++ [z]) = Nat.lcm (lcms zs) z.natAbs := by simp [lcms]
theorem lcms_pos (zs : List Int) (h : ∀ z ∈ zs, z ≠ 0) : 0 < lcms zs := by
 have key : ∀ (zs : List Int) (m : Nat), 0 < m → (∀ z ∈ zs, z ≠ 0) → 0 < zs.foldl (fun (m : Nat) z => Nat.lcm m z.natAbs) m := by
  intro zs
  induction zs with
  | nil => intro m hm _; exact hm
  | cons z zs ih =>
   intro m hm hz
   exact ih _ (Nat.lcm_pos hm (Int.natAbs_pos.2 (hz z (List.mem_cons_self ..)))) (fun y hy => hz y (List.mem_cons_of_mem _ hy))
 exact key zs 1 (by decide) h
theorem lcms_append_dvd (zs ys : List Int) : lcms zs ∣ lcms (zs ++ ys) := by
 have key : ∀ (ys : List Int) (m : Nat), m ∣ ys.foldl (fun (m : Nat) z => Nat.lcm m z.natAbs) m := by
  intro ys
  induction ys with
  | nil => intro m; exact Nat.dvd_refl _
  | cons z zs ih => intro m; exact Nat.dvd_trans (Nat.dvd_lcm_left _ _) (ih _)
 unfold lcms
 rw [List.foldl_append]
 exact key ys _
theorem lcm_exact (m : Nat) (z : Int) : m * (z.natAbs / Nat.gcd m z.natAbs) = Nat.lcm m z.natAbs := by
 rw [Nat.lcm, ← Nat.mul_div_assoc _ (Nat.gcd_dvd_right ..)]
end Go.Proofs.YtbhenelehhiakaaGreat
namespace Go.Proofs.YtbhenelehhiakaaGreat
open Go.RowKit
theorem r3Abs_y (b : Bool) (B : Nat) (w : World) (a : Option Addr) (n c : Nat) (l : Nt) (z y : Int) (h : NatS B w a n c l) (hn : n ≤ 17592186044416) (hz : Hid (ival b l = z)) (hy : Hid ((z.natAbs : Int) = y)) :
  Calls Tryz.prog 153 #[.agg #[.bool b, .slice a n c]] w (RInt w y) := by
 have := r3Abs_z b B w a n c l z h hn hz
 rwa [hy.out] at this
theorem r3Exact_y (b b2 : Bool) (B : Nat) (w : World) (a a2 : Option Addr) (n c n2 c2 : Nat) (l l2 : Nt) (z z2 y : Int) (h : NatS B w a n c l) (h2 : NatS B w a2 n2 c2 l2) (hn : n ≤ 4398046511104) (hn2 : n2 ≤ 4398046511104) (hz : Hid (ival b l = z)) (hz2 : Hid (ival b2 l2 = z2)) (h0 : z2 ≠ 0) (hdv : z2 ∣ z) (hy : Hid (z / z2 = y)) :
  Calls Tryz.prog 126 #[.agg #[.bool b, .slice a n c], .agg #[.bool b2, .slice a2 n2 c2]] w fun e w' => ∃ a3 n3 c3, e = .returned (.tuple #[.agg #[.bool (decide (y < 0)), .slice a3 n3 c3], .bool true]) ∧ NatS w.heap.size w' a3 n3 c3 (limbs y.natAbs) ∧ Ext w w' := by
 refine (r3Exact_z b b2 B w a a2 n c n2 c2 l l2 z z2 h h2 hn hn2 hz hz2 h0 hdv).mono ?_
 rintro e w' ⟨v, rfl, ⟨a3, n3, c3, rfl, h3⟩, hE⟩
 rw [hy.out] at h3 ⊢
 exact ⟨a3, n3, c3, rfl, h3, hE⟩
theorem r3Gcd_y (b b2 : Bool) (B : Nat) (w : World) (a a2 : Option Addr) (n c n2 c2 : Nat) (l l2 : Nt) (z z2 y : Int) (h : NatS B w a n c l) (h2 : NatS B w a2 n2 c2 l2) (hn : n ≤ 549755813888) (hn2 : n2 ≤ 549755813888) (hz : Hid (ival b l = z)) (hz2 : Hid (ival b2 l2 = z2)) (hy : Hid (((Int.gcd z z2 : Nat) : Int) = y)) :
  Calls Tryz.prog 125 #[.agg #[.bool b, .slice a n c], .agg #[.bool b2, .slice a2 n2 c2]] w (RInt w y) := by
 have := r3Gcd_z b b2 B w a a2 n c n2 c2 l l2 z z2 h h2 hn hn2 hz hz2
 rwa [hy.out] at this
set_option maxRecDepth 100000 in
set_option maxHeartbeats 8000000 in
theorem r3Lcm_any (K KL : Nat) (hK : K ≤ 549755813888) (hKL : KL ≤ 549755813888) (w : World) (a : Option Addr) (n c : Nat) (zs : List Int) (h : Sl (rIntK K) 0 w a n c zs) (hz0 : Hid (∀ z ∈ zs, z ≠ 0)) (hL : nl (lcms zs) ≤ KL) (L : Nat) (hLe : Hid (lcms zs = L)) :
  Calls Tryz.prog 132 #[.slice a n c] w (RInt w (L : Int)) := by
 have HS := Lib.hid h
 have hmost := h.most
 have hcap := h.cap
 have hlen := Lib.hid h.len
 clear h
 go_enter Tryz.func132, Tryz.ntmps132
 go_wp2_with fail
 have r := Blk.new w 25 #[.bool false, .slice none 0 0]
 have hEW : Ext w (w.alloc (Obj.cells #[.bool false, .slice none 0 0] 25)) := ((Below.refl _ w).alloc (by simp) _)
 generalize hgW : w.alloc (Obj.cells #[.bool false, .slice none 0 0] 25) = W at *
 clear hgW
 replace r_0 := r.cell (i := 0) rfl
 replace r_1 := r.cell (i := 1) rfl
 replace r_f0 := r.free 0
 replace r_f1 := r.free 1
 replace r_lt := r.lt
 have hW : w.heap.size + 1 ≤ W.heap.size := r_lt
 refine (r3Of_any 1 W (by omega) (by omega)).mono ?_
 rintro e w1 ⟨a3, n3, c3, rfl, h3, hE1⟩
 replace r := r.ext hE1; replace r_0 := r.cell (i := 0) rfl; replace r_1 := r.cell (i := 1) rfl; replace r_f0 := r.free 0; replace r_f1 := r.free 1; replace r_lt := r.lt
 rw [show decide ((1 : Int) < 0) = false from rfl]
 have hE0 := Ext.trans hEW hE1
 replace h3 := h3.mono hW (Kept.refl _ _)
 clear hEW
 go_wp2_with fail
 have m := Blk.new w1 25 #[.bool false, .slice a3 n3 c3]
 have hEW2 : Ext w1 (w1.alloc (Obj.cells #[.bool false, .slice a3 n3 c3] 25)) := ((Below.refl _ w1).alloc (by simp) _)
 generalize hgW2 : w1.alloc (Obj.cells #[.bool false, .slice a3 n3 c3] 25) = W2 at *
 clear hgW2
 replace m_0 := m.cell (i := 0) rfl
 replace m_1 := m.cell (i := 1) rfl
 replace m_f0 := m.free 0
 replace m_f1 := m.free 1
 replace m_lt := m.lt
 replace r := r.ext hEW2; replace r_0 := r.cell (i := 0) rfl; replace r_1 := r.cell (i := 1) rfl; replace r_f0 := r.free 0; replace r_f1 := r.free 1; replace r_lt := r.lt
 replace h3 := h3.ext (Nat.le_refl _) hEW2
 replace hE0 := Ext.trans hE0 hEW2
 have hw1 : w.heap.size + 1 ≤ w1.heap.size := Nat.le_trans hW hE1.size
 have HM0 : Hid (∃ a3 n3 c3, Blk W2 w1.heap.size 25 #[.bool false, .slice a3 n3 c3] ∧ NatS (w.heap.size + 1) W2 a3 n3 c3 (limbs (lcms (zs.take 0)))) := Lib.hid ⟨a3, n3, c3, m, h3⟩
 have HR0 := Lib.hid r
 have HE0 := Lib.hid hE0
 clear h3 hE0 hE1 hEW2 m m_0 m_1 m_f0 m_f1 m_lt r r_0 r_1 r_f0 r_f1 r_lt
 go_loopg [11] n (fun q vi wr => ∃ (i : Nat), i ≤ n ∧ q = n - i ∧ vi = .int .i64 (i : Int) ∧ Hid (∃ a3 n3 c3, Blk wr w1.heap.size 25 #[.bool false, .slice a3 n3 c3] ∧ NatS (w.heap.size + 1) wr a3 n3 c3 (limbs (lcms (zs.take i)))) ∧ Hid (Blk wr w.heap.size 25 #[.bool false, .slice none 0 0]) ∧ Hid (Ext w wr))
 case atStart => exact ⟨0, Nat.zero_le _, rfl, rfl, HM0, HR0, HE0⟩
 case round =>
  clear HM0 HR0 HE0
  obtain ⟨i, hi, hq, rfl, HM, HR, HE⟩ := hrel
  by_cases hin : i < n
  ·obtain ⟨b5, o5, s5, a5, n5, c5, l5, z, rfl, hb5, hzi, hc5, hc6, h5, hz5, hn5⟩ := HS.out.getInt hin
   have hc5 := (HE.out.cell (p := ⟨b5, o5 + i * 2, none⟩) hb5).trans hc5
   have hc6 := (HE.out.cell (p := ⟨b5, o5 + i * 2 + 1, none⟩) hb5).trans hc6
   replace h5 := h5.ext (Nat.le_refl _) HE.out
   have hz0' : z ≠ 0 := hz0.out z (List.mem_of_getElem? hzi)
   obtain ⟨hil, hzi'⟩ := List.getElem?_eq_some_iff.1 hzi
   have hts : zs.take (i + 1) = zs.take i ++ [z] := by rw [List.take_succ_eq_append_getElem hil, hzi']
   have HX : Hid (lcms (zs.take (i + 1)) = Nat.lcm (lcms (zs.take i)) z.natAbs) := Lib.hid (by rw [hts, lcms_snoc])
   have hmp : 0 < lcms (zs.take i) := lcms_pos _ (fun z hz => hz0.out z (List.mem_of_mem_take hz))
   have hnm : nl (lcms (zs.take i)) ≤ KL := by
    refine Nat.le_trans (nl_mono (Nat.le_of_dvd (lcms_pos _ hz0.out) ?_)) hL
    conv => rhs; rw [← List.take_append_drop i zs]
    exact lcms_append_dvd _ _
   have hnx : nl (lcms (zs.take (i + 1))) ≤ KL := by
    refine Nat.le_trans (nl_mono (Nat.le_of_dvd (lcms_pos _ hz0.out) ?_)) hL
    conv => rhs; rw [← List.take_append_drop (i + 1) zs]
    exact lcms_append_dvd _ _
   obtain ⟨a6, n6, c6, hm6, h6⟩ := HM.out
   have HZ5 := Lib.hid hz5
   rw [HX.out] at hnx
   generalize lcms (zs.take i) = M at *
   have hn6 : n6 ≤ KL := by have := h6.len; rw [length_limbs] at this; omega
   have r := HR.out
   have m := hm6
   clear hzi hzi' hts hz5 hm6 HR HM
   skip
   skip
   replace r_0 := r.cell (i := 0) rfl
   replace r_1 := r.cell (i := 1) rfl
   replace r_f0 := r.free 0
   replace r_f1 := r.free 1
   replace r_lt := r.lt
   replace m_0 := m.cell (i := 0) rfl
   replace m_1 := m.cell (i := 1) rfl
   replace m_f0 := m.free 0
   replace m_f1 := m.free 1
   replace m_lt := m.lt
   have m_a0 := cell_alloc m_0 (Obj.cells #[.bool s5, .slice a5 n5 c5] 25)
   have m_a1 := cell_alloc m_1 (Obj.cells #[.bool s5, .slice a5 n5 c5] 25)
   go_wp2_with fail
   clear m_a0 m_a1 hc5 hc6
   have x := Blk.new wr 25 #[.bool s5, .slice a5 n5 c5]
   have hEW3 : Ext wr (wr.alloc (Obj.cells #[.bool s5, .slice a5 n5 c5] 25)) := ((Below.refl _ wr).alloc (by simp) _)
   generalize hgW3 : wr.alloc (Obj.cells #[.bool s5, .slice a5 n5 c5] 25) = W3 at *
   clear hgW3
   replace x_0 := x.cell (i := 0) rfl
   replace x_1 := x.cell (i := 1) rfl
   replace r := r.ext hEW3; replace r_0 := r.cell (i := 0) rfl; replace r_1 := r.cell (i := 1) rfl; replace r_f0 := r.free 0; replace r_f1 := r.free 1; replace r_lt := r.lt; replace m := m.ext hEW3; replace m_0 := m.cell (i := 0) rfl; replace m_1 := m.cell (i := 1) rfl; replace m_f0 := m.free 0; replace m_f1 := m.free 1; replace m_lt := m.lt
   replace h5 := h5.ext (Nat.le_refl _) hEW3
   replace h6 := h6.ext (Nat.le_refl _) hEW3
   have hE0 := Ext.trans HE.out hEW3
   refine (r3Sign_z s5 0 W3 _ _ _ _ z h5 HZ5).mono ?_
   rintro e w4 ⟨rfl, hE4⟩
   replace r := r.ext hE4; replace r_0 := r.cell (i := 0) rfl; replace r_1 := r.cell (i := 1) rfl; replace r_f0 := r.free 0; replace r_f1 := r.free 1; replace r_lt := r.lt; replace m := m.ext hE4; replace m_0 := m.cell (i := 0) rfl; replace m_1 := m.cell (i := 1) rfl; replace m_f0 := m.free 0; replace m_f1 := m.free 1; replace m_lt := m.lt; replace x := x.ext hE4; replace x_0 := x.cell (i := 0) rfl; replace x_1 := x.cell (i := 1) rfl
   replace h5 := h5.ext (Nat.le_refl _) hE4
   replace h6 := h6.ext (Nat.le_refl _) hE4
   replace hE0 := Ext.trans hE0 hE4
   have hs0 : (z.sign == 0) = false := by simpa using hz0'
   have hgd : ((Int.gcd (M : Int) z : Nat) : Int) ∣ (z.natAbs : Int) := Int.natCast_dvd_natCast.2 (Int.gcd_dvd_natAbs_right (M : Int) z)
   have hg0 : ((Int.gcd (M : Int) z : Nat) : Int) ≠ 0 := by have := Int.gcd_pos_of_ne_zero_right (M : Int) hz0'; omega
   have HQV : Hid ((z.natAbs : Int) / ((Int.gcd (M : Int) z : Nat) : Int) = ((z.natAbs / Nat.gcd M z.natAbs : Nat) : Int)) := Lib.hid (by rw [Int.natCast_ediv]; rfl)
   have hnz : nl z.natAbs ≤ K := Nat.le_trans (nl_of h5 HZ5) hn5
   have hng : nl (Int.gcd (M : Int) z) ≤ K := Nat.le_trans (nl_mono (Int.gcd_le_natAbs_right _ hz0')) hnz
   have HLC := Lib.hid (lcm_exact M z)
   have hnq : nl (z.natAbs / Nat.gcd M z.natAbs) ≤ K := Nat.le_trans (nl_mono (Nat.div_le_self _ _)) hnz
   have hHM : Hid (ival false (limbs M) = (M : Int)) := Lib.hid (by rw [ival_limbs]; rfl)
   generalize z.sign = sg at *
   generalize hzn : (z.natAbs : Int) = zn at *
   have HZN := Lib.hid hzn
   generalize hgg : ((Int.gcd (M : Int) z : Nat) : Int) = gg at *
   have HGG := Lib.hid hgg
   generalize z.natAbs / Nat.gcd M z.natAbs = Q at *
   clear hE4 hEW3 hgg hzn
   obtain ⟨wo, rfl⟩ : ∃ wo : World, wo = w4 := ⟨_, rfl⟩
   go_upto_region 7 with (fail)
   go_cut [6, 7] (fun s6 s7 wx => ∃ (qb : Nat) (a7 : Option Addr) (n7 c7 : Nat), s6 = .pointer (some ⟨qb, 0, none⟩) ∧ wo.heap.size ≤ qb ∧ Hid (Blk wx w1.heap.size 25 #[.bool false, .slice a6 n6 c6]) ∧ Hid (Blk wx w.heap.size 25 #[.bool false, .slice none 0 0]) ∧ Hid (Blk wx qb 25 #[.bool (decide ((Q : Int) < 0)), .slice a7 n7 c7]) ∧ Hid (NatS wo.heap.size wx a7 n7 c7 (limbs Q)) ∧ Hid (Ext wo wx))
   case first =>
    have hd : Ext wo wo.drew := (Below.refl _ _).drew
    have u1 := Nat.ne_of_gt m.lt
    have u2 := Nat.ne_of_lt m.lt
    have u3 := Nat.ne_of_gt x.lt
    have u4 := Nat.ne_of_lt x.lt
    have u5 := Nat.ne_of_gt r.lt
    have u6 := Nat.ne_of_lt r.lt
    have r := r.ext hd; have r_0 := r.cell (i := 0) rfl; have r_1 := r.cell (i := 1) rfl; have r_f0 := r.free 0; have r_f1 := r.free 1; have r_lt := r.lt; have m := m.ext hd; have m_0 := m.cell (i := 0) rfl; have m_1 := m.cell (i := 1) rfl; have m_f0 := m.free 0; have m_f1 := m.free 1; have m_lt := m.lt; have x := x.ext hd; have x_0 := x.cell (i := 0) rfl; have x_1 := x.cell (i := 1) rfl
    replace h5 := h5.ext (Nat.le_refl _) hd
    replace h6 := Sl.zero (h6.ext (Nat.le_refl _) hd)
    have hE0 := hd
    go_region_held3 (fun w' => w'.cell? ⟨w1.heap.size, 0, none⟩ = some (.bool false) ∧ w'.cell? ⟨w1.heap.size, 1, none⟩ = some (.slice a6 n6 c6) ∧ w'.cell? ⟨wr.heap.size, 0, none⟩ = some (.bool s5) ∧ w'.cell? ⟨wr.heap.size, 1, none⟩ = some (.slice a5 n5 c5)) (first | exact ⟨m_0, m_1, x_0, x_1⟩ | go_keep)
     (first | (go_at_call 153; refine (r3Abs_y s5 0 _ a5 n5 c5 l5 z zn (h5.ext (Nat.le_refl _) (by first | exact Ext.refl _ | exact (Below.refl _ _).alloc (Nat.le_refl _) _ | exact (Below.refl _ _).drew)) (by omega) HZ5 HZN).mono ?_; rintro e w5 ⟨a7, n7, c7, rfl, h7, hE1⟩; have hB1 := (fun b t c h => Blk.ext h hE1 : ∀ b t c, Blk _ b t c → Blk w5 b t c); (try (replace q := hB1 _ _ _ q; have q_0 := q.cell (i := 0) rfl; have q_f0 := q.free 0; have q_1 := q.cell (i := 1) rfl; have q_f1 := q.free 1; have q_lt := q.lt)); (try ((first | (have q := hB1 _ _ _ (Blk.new _ 25 #[.bool false, .slice none 0 0])) | (have q : Blk w5 wo.heap.size 25 #[.bool false, .slice none 0 0] := hB1 _ _ _ (Blk.new wo.drew 25 #[.bool false, .slice none 0 0]))); have q_ge := Below.size hE0; have q_ne_r := Nat.ne_of_gt r.lt; have r_ne_q := Nat.ne_of_lt r.lt; have q_ne_m := Nat.ne_of_gt m.lt; have m_ne_q := Nat.ne_of_lt m.lt; have q_ne_x := Nat.ne_of_gt x.lt; have x_ne_q := Nat.ne_of_lt x.lt; have q_0 := q.cell (i := 0) rfl; have q_f0 := q.free 0; have q_1 := q.cell (i := 1) rfl; have q_f1 := q.free 1; have q_lt := q.lt)); replace r := r.ext (Ext.trans (by first | exact Ext.refl _ | exact (Below.refl _ _).alloc (Nat.le_refl _) _ | exact (Below.refl _ _).drew) hE1); replace r_0 := r.cell (i := 0) rfl; replace r_1 := r.cell (i := 1) rfl; replace r_f0 := r.free 0; replace r_f1 := r.free 1; replace r_lt := r.lt; replace m := m.ext (Ext.trans (by first | exact Ext.refl _ | exact (Below.refl _ _).alloc (Nat.le_refl _) _ | exact (Below.refl _ _).drew) hE1); replace m_0 := m.cell (i := 0) rfl; replace m_1 := m.cell (i := 1) rfl; replace m_f0 := m.free 0; replace m_f1 := m.free 1; replace m_lt := m.lt; replace x := x.ext (Ext.trans (by first | exact Ext.refl _ | exact (Below.refl _ _).alloc (Nat.le_refl _) _ | exact (Below.refl _ _).drew) hE1); replace x_0 := x.cell (i := 0) rfl; replace x_1 := x.cell (i := 1) rfl; replace h5 := h5.ext (Nat.le_refl _) (Ext.trans (by first | exact Ext.refl _ | exact (Below.refl _ _).alloc (Nat.le_refl _) _ | exact (Below.refl _ _).drew) hE1); replace h6 := h6.ext (Nat.le_refl _) (Ext.trans (by first | exact Ext.refl _ | exact (Below.refl _ _).alloc (Nat.le_refl _) _ | exact (Below.refl _ _).drew) hE1); (try replace h8 := h8.ext (Nat.le_refl _) (Ext.trans (by first | exact Ext.refl _ | exact (Below.refl _ _).alloc (Nat.le_refl _) _ | exact (Below.refl _ _).drew) hE1)); replace h7 := h7.mono (Below.size (Ext.trans hE0 (by first | exact Ext.refl _ | exact (Below.refl _ _).alloc (Nat.le_refl _) _ | exact (Below.refl _ _).drew))) (Kept.refl _ _); replace hE0 := Ext.trans hE0 (Ext.trans (by first | exact Ext.refl _ | exact (Below.refl _ _).alloc (Nat.le_refl _) _ | exact (Below.refl _ _).drew) hE1))
            | (go_at_call 125; refine (r3Gcd_y false s5 0 _ a6 a5 n6 c6 n5 c5 _ l5 (M : Int) z gg (h6.ext (Nat.le_refl _) (by first | exact Ext.refl _ | exact (Below.refl _ _).alloc (Nat.le_refl _) _ | exact (Below.refl _ _).drew)) (h5.ext (Nat.le_refl _) (by first | exact Ext.refl _ | exact (Below.refl _ _).alloc (Nat.le_refl _) _ | exact (Below.refl _ _).drew)) (by omega) (by omega) hHM HZ5 HGG).mono ?_; rintro e w5 ⟨a8, n8, c8, rfl, h8, hE1⟩; have hB1 := (fun b t c h => Blk.ext h hE1 : ∀ b t c, Blk _ b t c → Blk w5 b t c); (try (replace q := hB1 _ _ _ q; have q_0 := q.cell (i := 0) rfl; have q_f0 := q.free 0; have q_1 := q.cell (i := 1) rfl; have q_f1 := q.free 1; have q_lt := q.lt)); (try ((first | (have q := hB1 _ _ _ (Blk.new _ 25 #[.bool false, .slice none 0 0])) | (have q : Blk w5 wo.heap.size 25 #[.bool false, .slice none 0 0] := hB1 _ _ _ (Blk.new wo.drew 25 #[.bool false, .slice none 0 0]))); have q_ge := Below.size hE0; have q_ne_r := Nat.ne_of_gt r.lt; have r_ne_q := Nat.ne_of_lt r.lt; have q_ne_m := Nat.ne_of_gt m.lt; have m_ne_q := Nat.ne_of_lt m.lt; have q_ne_x := Nat.ne_of_gt x.lt; have x_ne_q := Nat.ne_of_lt x.lt; have q_0 := q.cell (i := 0) rfl; have q_f0 := q.free 0; have q_1 := q.cell (i := 1) rfl; have q_f1 := q.free 1; have q_lt := q.lt)); replace r := r.ext (Ext.trans (by first | exact Ext.refl _ | exact (Below.refl _ _).alloc (Nat.le_refl _) _ | exact (Below.refl _ _).drew) hE1); replace r_0 := r.cell (i := 0) rfl; replace r_1 := r.cell (i := 1) rfl; replace r_f0 := r.free 0; replace r_f1 := r.free 1; replace r_lt := r.lt; replace m := m.ext (Ext.trans (by first | exact Ext.refl _ | exact (Below.refl _ _).alloc (Nat.le_refl _) _ | exact (Below.refl _ _).drew) hE1); replace m_0 := m.cell (i := 0) rfl; replace m_1 := m.cell (i := 1) rfl; replace m_f0 := m.free 0; replace m_f1 := m.free 1; replace m_lt := m.lt; replace x := x.ext (Ext.trans (by first | exact Ext.refl _ | exact (Below.refl _ _).alloc (Nat.le_refl _) _ | exact (Below.refl _ _).drew) hE1); replace x_0 := x.cell (i := 0) rfl; replace x_1 := x.cell (i := 1) rfl; replace h5 := h5.ext (Nat.le_refl _) (Ext.trans (by first | exact Ext.refl _ | exact (Below.refl _ _).alloc (Nat.le_refl _) _ | exact (Below.refl _ _).drew) hE1); replace h6 := h6.ext (Nat.le_refl _) (Ext.trans (by first | exact Ext.refl _ | exact (Below.refl _ _).alloc (Nat.le_refl _) _ | exact (Below.refl _ _).drew) hE1); (try replace h7 := h7.ext (Nat.le_refl _) (Ext.trans (by first | exact Ext.refl _ | exact (Below.refl _ _).alloc (Nat.le_refl _) _ | exact (Below.refl _ _).drew) hE1)); replace h8 := h8.mono (Below.size (Ext.trans hE0 (by first | exact Ext.refl _ | exact (Below.refl _ _).alloc (Nat.le_refl _) _ | exact (Below.refl _ _).drew))) (Kept.refl _ _); replace hE0 := Ext.trans hE0 (Ext.trans (by first | exact Ext.refl _ | exact (Below.refl _ _).alloc (Nat.le_refl _) _ | exact (Below.refl _ _).drew) hE1))
            | (go_at_call 126; refine (r3Exact_y _ _ 0 _ a7 a8 n7 c7 n8 c8 _ _ zn gg (Q : Int) (Sl.zero (h7.ext (Nat.le_refl _) (by first | exact Ext.refl _ | exact (Below.refl _ _).alloc (Nat.le_refl _) _ | exact (Below.refl _ _).drew))) (Sl.zero (h8.ext (Nat.le_refl _) (by first | exact Ext.refl _ | exact (Below.refl _ _).alloc (Nat.le_refl _) _ | exact (Below.refl _ _).drew))) (by have := h7.len; rw [length_limbs, ← HZN.out, Int.natAbs_natCast] at this; omega) (by have := h8.len; rw [length_limbs, ← HGG.out, Int.natAbs_natCast] at this; omega) (hnorm _) (hnorm _) hg0 hgd HQV).mono ?_; rintro e w5 ⟨a9, n9, c9, rfl, h9, hE1⟩; have hB1 := (fun b t c h => Blk.ext h hE1 : ∀ b t c, Blk _ b t c → Blk w5 b t c); (try (replace q := hB1 _ _ _ q; have q_0 := q.cell (i := 0) rfl; have q_f0 := q.free 0; have q_1 := q.cell (i := 1) rfl; have q_f1 := q.free 1; have q_lt := q.lt)); (try ((first | (have q := hB1 _ _ _ (Blk.new _ 25 #[.bool false, .slice none 0 0])) | (have q : Blk w5 wo.heap.size 25 #[.bool false, .slice none 0 0] := hB1 _ _ _ (Blk.new wo.drew 25 #[.bool false, .slice none 0 0]))); have q_ge := Below.size hE0; have q_ne_r := Nat.ne_of_gt r.lt; have r_ne_q := Nat.ne_of_lt r.lt; have q_ne_m := Nat.ne_of_gt m.lt; have m_ne_q := Nat.ne_of_lt m.lt; have q_ne_x := Nat.ne_of_gt x.lt; have x_ne_q := Nat.ne_of_lt x.lt; have q_0 := q.cell (i := 0) rfl; have q_f0 := q.free 0; have q_1 := q.cell (i := 1) rfl; have q_f1 := q.free 1; have q_lt := q.lt)); replace r := r.ext (Ext.trans (by first | exact Ext.refl _ | exact (Below.refl _ _).alloc (Nat.le_refl _) _ | exact (Below.refl _ _).drew) hE1); replace r_0 := r.cell (i := 0) rfl; replace r_1 := r.cell (i := 1) rfl; replace r_f0 := r.free 0; replace r_f1 := r.free 1; replace r_lt := r.lt; replace m := m.ext (Ext.trans (by first | exact Ext.refl _ | exact (Below.refl _ _).alloc (Nat.le_refl _) _ | exact (Below.refl _ _).drew) hE1); replace m_0 := m.cell (i := 0) rfl; replace m_1 := m.cell (i := 1) rfl; replace m_f0 := m.free 0; replace m_f1 := m.free 1; replace m_lt := m.lt; replace x := x.ext (Ext.trans (by first | exact Ext.refl _ | exact (Below.refl _ _).alloc (Nat.le_refl _) _ | exact (Below.refl _ _).drew) hE1); replace x_0 := x.cell (i := 0) rfl; replace x_1 := x.cell (i := 1) rfl; replace h5 := h5.ext (Nat.le_refl _) (Ext.trans (by first | exact Ext.refl _ | exact (Below.refl _ _).alloc (Nat.le_refl _) _ | exact (Below.refl _ _).drew) hE1); replace h6 := h6.ext (Nat.le_refl _) (Ext.trans (by first | exact Ext.refl _ | exact (Below.refl _ _).alloc (Nat.le_refl _) _ | exact (Below.refl _ _).drew) hE1); replace h9 := h9.mono (Below.size (Ext.trans hE0 (by first | exact Ext.refl _ | exact (Below.refl _ _).alloc (Nat.le_refl _) _ | exact (Below.refl _ _).drew))) (Kept.refl _ _); replace hE0 := Ext.trans hE0 (Ext.trans (by first | exact Ext.refl _ | exact (Below.refl _ _).alloc (Nat.le_refl _) _ | exact (Below.refl _ _).drew) hE1)))
    all_goals (go_wp2_with fail; go_meet)
    all_goals first
     | exact ⟨_, a9, n9, c9, rfl, Below.size hE0, Lib.hid (m.ext ((Below.refl _ _).alloc (Nat.le_refl _) _)), Lib.hid (r.ext ((Below.refl _ _).alloc (Nat.le_refl _) _)), Lib.hid (Blk.new _ _ _), Lib.hid (h9.ext (Nat.le_refl _) ((Below.refl _ _).alloc (Nat.le_refl _) _)), Lib.hid (Ext.trans hE0 ((Below.refl _ _).alloc (Nat.le_refl _) _))⟩
     | exact ⟨_, a9, n9, c9, rfl, q_ge, Lib.hid ((m.set_ne 0 _ m_ne_q).set_ne 1 _ m_ne_q), Lib.hid ((r.set_ne 0 _ r_ne_q).set_ne 1 _ r_ne_q), Lib.hid ((q.set 0 _).set 1 _), Lib.hid (NatS.set (NatS.set h9 q_0 (fun x => by simp) _) ((q.set 0 _).cell (i := 1) rfl) (fun x => by simp) _), Lib.hid (Below.setCell (Below.setCell hE0 (p := ⟨_, 0, none⟩) q_ge _) (p := ⟨_, 1, none⟩) q_ge _)⟩
   case rest =>
    have hEo := hE0
    clear r m x r_0 r_1 r_f0 r_f1 r_lt m_0 m_1 m_f0 m_f1 m_lt x_0 x_1 hE0
    obtain ⟨qb, a7, n7, c7, rfl, hqb, HM, HR, HQ, H7, HE7⟩ := hcut
    have r := HR.out
    have m := HM.out
    have q := HQ.out
    have hn7 : n7 ≤ K := by have := H7.out.len; rw [length_limbs] at this; omega
    rw [show decide (((Q : Nat) : Int) < 0) = false from decide_eq_false (by omega)] at q
    skip
    skip
    skip
    replace r_0 := r.cell (i := 0) rfl
    replace r_1 := r.cell (i := 1) rfl
    replace r_f0 := r.free 0
    replace r_f1 := r.free 1
    replace r_lt := r.lt
    replace m_0 := m.cell (i := 0) rfl
    replace m_1 := m.cell (i := 1) rfl
    replace m_f0 := m.free 0
    replace m_f1 := m.free 1
    replace m_lt := m.lt
    replace q_0 := q.cell (i := 0) rfl
    replace q_1 := q.cell (i := 1) rfl
    have hEw := Ext.trans hEo HE7.out
    have HY : Hid ((M : Int) * (Q : Int) = ((Nat.lcm M z.natAbs : Nat) : Int)) := Lib.hid (by rw [← HLC.out]; exact (Int.natCast_mul _ _).symm)
    go_wp2_with fail
    refine (r3Mul_y false false 0 wc _ _ _ _ _ _ _ _ (M : Int) (Q : Int) _ (Sl.zero (h6.ext (Nat.le_refl _) HE7.out)) (Sl.zero H7.out) (by omega) (by omega) hHM (Lib.hid (by rw [ival_limbs]; rfl)) HY).mono ?_
    rintro e w8 ⟨a8, n8, c8, rfl, h8, hE8⟩
    rw [show decide (((Nat.lcm M z.natAbs : Nat) : Int) < 0) = false from decide_eq_false (by omega)]
    rw [Int.natAbs_natCast] at h8
    replace r := r.ext hE8; replace r_0 := r.cell (i := 0) rfl; replace r_1 := r.cell (i := 1) rfl; replace r_f0 := r.free 0; replace r_f1 := r.free 1; replace r_lt := r.lt; replace m := m.ext hE8; replace m_0 := m.cell (i := 0) rfl; replace m_1 := m.cell (i := 1) rfl; replace m_f0 := m.free 0; replace m_f1 := m.free 1; replace m_lt := m.lt
    have hmw := m_lt
    have hwc : w.heap.size + 1 ≤ wc.heap.size := Nat.le_trans hw1 (Nat.le_of_lt (Nat.lt_of_lt_of_le (by have := HM.out.lt; exact this) (Nat.le_refl _)))
    have H8 := Lib.hid (h8.mono hwc (Kept.refl _ _))
    have HM8 := Lib.hid ((m.set 0 (.bool false)).set 1 (.slice a8 n8 c8))
    have HR8 := Lib.hid ((r.set_ne 0 (.bool false) (show w.heap.size ≠ w1.heap.size by omega)).set_ne 1 (.slice a8 n8 c8) (show w.heap.size ≠ w1.heap.size by omega))
    have HN8 := Lib.hid (NatS.set (NatS.set H8.out m_0 (fun x => by simp) (.bool false)) ((m.set 0 (.bool false)).cell (i := 1) rfl) (fun x => by simp) (.slice a8 n8 c8))
    have HE8 := Lib.hid (Below.setCell (Below.setCell (Ext.trans hEw hE8) (p := ⟨w1.heap.size, 0, none⟩) (show w.heap.size ≤ w1.heap.size by omega) (.bool false)) (p := ⟨w1.heap.size, 1, none⟩) (show w.heap.size ≤ w1.heap.size by omega) (.slice a8 n8 c8))
    clear h8 hE8
    go_wp2_with fail
    go_roundg (n - (i + 1))
    case measure => omega
    case rel => exact ⟨i + 1, by omega, rfl, by go_num, Lib.hid ⟨a8, n8, c8, HM8.out, by rw [HX.out]; exact HN8.out⟩, HR8, HE8⟩
  ·obtain rfl : i = n := by omega
   obtain ⟨a6, n6, c6, hm6, h6⟩ := HM.out
   have hfull : lcms (zs.take i) = L := by rw [List.take_of_length_le (by rw [hlen.out]; exact Nat.le_refl _)]; exact hLe.out
   rw [hfull] at h6
   have r := HR.out
   have m := hm6
   have hwl := m.lt
   have HF := Lib.hid (RInt.boxN (w := w) (z := (L : Int)) (r := w.heap.size) (u1 := .bool false) (u2 := .slice a6 n6 c6) (B := w.heap.size + 1) (Nat.le_refl _) (by omega) HE.out ⟨a6, n6, c6, by rw [decide_eq_false (by omega)], by rw [Int.natAbs_natCast]; exact h6⟩)
   clear h6 hfull hm6 HM HR
   skip
   skip
   replace r_0 := r.cell (i := 0) rfl
   replace r_1 := r.cell (i := 1) rfl
   replace r_f0 := r.free 0
   replace r_f1 := r.free 1
   replace r_lt := r.lt
   replace m_0 := m.cell (i := 0) rfl
   replace m_1 := m.cell (i := 1) rfl
   go_wp2_with fail
   have r2 : Blk (((wr).setCell ⟨w.heap.size, 0, none⟩ (.bool false)).setCell ⟨w.heap.size, 1, none⟩ (.slice a6 n6 c6)) _ _ #[.bool false, .slice a6 n6 c6] := ((r).set 0 (.bool false)).set 1 (.slice a6 n6 c6)
   have hr0 := r2.cell (i := 0) rfl
   have hr1 := r2.cell (i := 1) rfl
   go_wp2_with fail
   exact bodyPost_ret (v := .agg #[.bool false, .slice a6 n6 c6]) (by simp [results, Tryz.results132, go_sem, hr0, hr1]) rfl HF.out
end Go.Proofs.YtbhenelehhiakaaGreat
namespace Go.Proofs.YtbhenelehhiakaaGreat
open Go.RowKit Go.Shelf
attribute [local go_sem] Oper.semAt_some
theorem kept_own {B : Nat} {W W' : World} {row : Option Nat} (hg : W.grownBy W' row) (hr : ∀ r, row = some r → ∃ o : Obj, W.heap[r]? = some o ∧ o.isCells = false) : Kept B W W' := fun _ _ _ hc =>
 ⟨hc.ge, cell_kept hc.cell hg hr, (frozen_kept hc.cell hg hr).trans hc.free⟩
theorem Blk.own {W W' : World} {row : Option Nat} {b : Nat} {t : TypeId} {c : Array Value} (h : Blk W b t c) (hg : W.grownBy W' row) (hr : ∀ r, row = some r → ∃ o : Obj, W.heap[r]? = some o ∧ o.isCells = false) : Blk W' b t c :=
 (grownBy_keeps_cells hg hr h rfl).trans h
theorem ints2 {B : Nat} {w : World} {p : Nat} {t : TypeId} {b1 b2 : Bool} {a1 a2 : Option Addr} {n1 c1 n2 c2 : Nat} {l1 l2 : Nt} (h : Blk w p t #[.bool b1, .slice a1 n1 c1, .bool b2, .slice a2 n2 c2]) (hB : B ≤ p) (h1 : NatS B w a1 n1 c1 l1) (h2 : NatS B w a2 n2 c2 l2) :
  Sl rInt B w (some ⟨p, 0, none⟩) 2 2 [(b1, l1), (b2, l2)] :=
 ⟨rfl, Nat.le_refl _, by omega, fun e => (by cases e), fun i hi => by
  obtain rfl | rfl : i = 0 ∨ i = 1 := by simp at hi; omega
  ·refine ⟨p, 0, _, rfl, rInt_mk h1, fun j hj => ?_⟩
   obtain rfl | rfl : j = 0 ∨ j = 1 := by simp at hj; omega
   ·exact ⟨hB, h.cell (i := 0) rfl, h.free 0⟩
   ·exact ⟨hB, h.cell (i := 1) rfl, h.free 1⟩
  ·refine ⟨p, 0, _, rfl, rInt_mk h2, fun j hj => ?_⟩
   obtain rfl | rfl : j = 0 ∨ j = 1 := by simp at hj; omega
   ·exact ⟨hB, h.cell (i := 2) rfl, h.free 2⟩
   ·exact ⟨hB, h.cell (i := 3) rfl, h.free 3⟩⟩
theorem keepsOthers_ext {w w' : World} (h : Ext w w') : KeepsOthers w w' := ⟨h.size, fun k _ hk _ => (h.block k (Array.getElem?_eq_some_iff.1 hk).1).trans hk⟩
def gcds (l : List Int) : Int := l.foldl gcdI 0
theorem gcds_snoc (l : List Int) (x : Int) : gcds (l ++ [x]) = gcdI (gcds l) x := by simp [gcds]
theorem gcds_dvd (l : List Int) (x : Int) (hx : x ∈ l) : gcds l ∣ x := by
 have key : ∀ (l : List Int) (z : Int), l.foldl gcdI z ∣ z ∧ ∀ x ∈ l, l.foldl gcdI z ∣ x := by
  intro l
  induction l with
  | nil => intro z; exact ⟨Int.dvd_refl z, fun x hx => by simp at hx⟩
  | cons y l ih =>
   intro z
   obtain ⟨h1, h2⟩ := ih (gcdI z y)
   refine ⟨Int.dvd_trans h1 (by unfold gcdI; exact Int.gcd_dvd_left ..), fun x hx => ?_⟩
   rcases List.mem_cons.1 hx with rfl | hx
   ·exact Int.dvd_trans h1 (by unfold gcdI; exact Int.gcd_dvd_right ..)
   ·exact h2 x hx
 exact (key l 0).2 x hx
theorem info_int : (Tryz.prog.info? 25).map (fun i => (i.zero, i.size, i.bytes)) = some (some (.agg #[.bool false, .slice none 0 0]), 2, 32) := by kernel_rfl
theorem info_ints : (Tryz.prog.info? 30).map (fun i => (i.zero, i.size, i.bytes)) = some (some (.slice none 0 0), 1, 24) := by kernel_rfl
theorem under_ints : Tryz.prog.underlying 30 = some (.slice 25) := by kernel_rfl
theorem under_intss : Tryz.prog.underlying 26 = some (.slice 30) := by kernel_rfl
theorem nl_gcds {K : Nat} (l : List Int) (h : ∀ x ∈ l, nl x.natAbs ≤ K) : nl (gcds l).natAbs ≤ K := by
 have key : ∀ (l : List Int) (z : Int), nl z.natAbs ≤ K → (∀ x ∈ l, nl x.natAbs ≤ K) → nl (l.foldl gcdI z).natAbs ≤ K := by
  intro l
  induction l with
  | nil => intro z hz _; exact hz
  | cons x l ih =>
   intro z hz hx
   refine ih _ ?_ (fun y hy => hx y (List.mem_cons_of_mem _ hy))
   show nl (((Int.gcd z x : Nat) : Int)).natAbs ≤ K
   rw [Int.natAbs_natCast]
   exact nl_gcd hz (hx x (List.mem_cons_self ..))
 exact key l 0 (by rw [Int.natAbs_zero, nl_zero]; omega) h
theorem IntAt.nl {w : World} (x : IntAt w) : nl x.z.natAbs ≤ 8796093022208 := Nat.le_trans (nl_of x.h (Lib.hid rfl)) x.hn
def colsOf {α : Type} (xss : List (List α)) : Nat := match xss with | [] => 0 | xs :: _ => xs.length
set_option maxHeartbeats 1000000 in
theorem gridCols_any (w0 w : World) (a : Option Addr) (m c : Nat) (xss : List (List (IntAt w0))) (hG : GridAt w0 a m c xss) (hw : Below w0.heap.size w0 w) :
  Calls Tryz.prog 113 #[.slice a m c] w fun e w' => e = .returned (.int .i64 (colsOf xss : Nat)) ∧ w' = w := by
 by_cases h0 : m = 0
 ·subst h0
  obtain rfl : xss = [] := List.length_eq_zero_iff.1 hG.len
  clear hG
  go_enter Tryz.func113, Tryz.ntmps113
  go_wp2_with fail
  go_ret
  exact ⟨rfl, rfl⟩
 ·obtain ⟨b, o, rfl, hb, hcs⟩ := hG.cells (by omega)
  have hl := hG.len
  obtain ⟨a1, n1, c1, hc1, hrow⟩ := hcs 0 (by omega)
  have hc2 := (hw.cell (p := ⟨b, o + 0, none⟩) hb).trans hc1
  have hcl : colsOf xss = n1 := by
   cases xss with
   | nil => simp at hl; omega
   | cons x xs => exact hrow.len
  rw [hcl]
  have hm0 : ((m : Int) == 0) = false := by simpa using h0
  have hmp : 0 < m := by omega
  simp only [Nat.add_zero] at hc2
  clear hcs hl hrow hcl hG h0 hc1
  go_enter Tryz.func113, Tryz.ntmps113
  go_wp2_with fail
  go_ret
  exact ⟨rfl, rfl⟩
def madeG (d : Int) (zs : List Int) : Int := if d < 0 then -(gcdI (gcds zs) d) else gcdI (gcds zs) d
def madeDen (d : Int) (zss : List (List Int)) : Int := if colsOf zss = 0 then 1 else d / madeG d zss.flatten
def madeRows (d : Int) (zss : List (List Int)) : List (List Int) := zss.map fun zs => zs.map fun z => z / madeG d zss.flatten
def RMat (w : World) (de : Int) (zss : List (List Int)) (e : Ending) (w' : World) : Prop := ∃ a n c a2 n2 c2, e = .returned (.agg #[.bool (decide (de < 0)), .slice a n c, .slice a2 n2 c2]) ∧ NatS w.heap.size w' a n c (limbs de.natAbs) ∧ Sl rRowsN w.heap.size w' a2 n2 c2 zss ∧ Ext w w'
def zssOf {w : World} (xss : List (List (IntAt w))) : List (List Int) := xss.map fun xs => xs.map IntAt.z
structure MSt (w : World) (b : Bool) (a : Option Addr) (n c D : Nat) (zg : Int) (W : World) : Prop where
 p0 : Blk W w.heap.size 25 #[.bool b, .slice a n c]
 r : Blk W (w.heap.size + 1) 28 #[.bool false, .slice none 0 0, .slice none 0 0]
 g : ∃ a3 n3 c3, Blk W (w.heap.size + 1 + 1) 25 #[.bool (decide (zg < 0)), .slice a3 n3 c3] ∧ NatS (w.heap.size + 4) W a3 n3 c3 (limbs zg.natAbs)
 low : Below w.heap.size w W
 sz : w.heap.size + 4 ≤ W.heap.size
 mark : W.heap[D]? = some (.deferred (some []))
theorem MSt.ext {w : World} {b : Bool} {a : Option Addr} {n c D : Nat} {zg : Int} {W W' : World} (h : MSt w b a n c D zg W) (k : Ext W W') : MSt w b a n c D zg W' := by
 obtain ⟨a3, n3, c3, h3, h4⟩ := h.g
 exact ⟨h.p0.ext k, h.r.ext k, ⟨a3, n3, c3, h3.ext k, h4.ext (Nat.le_refl _) k⟩, h.low.trans (k.mono h.low.size), Nat.le_trans h.sz k.size, (k.block D (Array.getElem?_eq_some_iff.1 h.mark).1).trans h.mark⟩
theorem MSt.set {w : World} {b : Bool} {a : Option Addr} {n c D : Nat} {zg z : Int} {W : World} (h : MSt w b a n c D zg W) {a5 : Option Addr} {n5 c5 : Nat} (hN : NatS (w.heap.size + 4) W a5 n5 c5 (limbs z.natAbs)) :
  MSt w b a n c D z ((W.setCell ⟨w.heap.size + 1 + 1, 0, none⟩ (.bool (decide (z < 0)))).setCell ⟨w.heap.size + 1 + 1, 1, none⟩ (.slice a5 n5 c5)) := by
 obtain ⟨a3, n3, c3, h3, h4⟩ := h.g
 refine ⟨(h.p0.set_ne 0 _ (by omega)).set_ne 1 _ (by omega), (h.r.set_ne 0 _ (by omega)).set_ne 1 _ (by omega), ⟨a5, n5, c5, (h3.set 0 _).set 1 _, hN.mono (Nat.le_refl _) (Kept.trans (kept_set _ _ _ (by omega)) (kept_set _ _ _ (by omega)))⟩, ?_, ?_, ?_⟩
 ·exact Below.setCell (Below.setCell h.low (p := ⟨w.heap.size + 1 + 1, 0, none⟩) (by simp; omega) _) (p := ⟨w.heap.size + 1 + 1, 1, none⟩) (by simp; omega) _
 ·have := h.sz; simp [World.setCell]; omega
 ·exact ((KeepsOthers.setCell _ _ _).trans (KeepsOthers.setCell _ _ _)).same D _ h.mark rfl
set_option maxRecDepth 100000 in
set_option maxHeartbeats 2000000 in
theorem made_any (w : World) (b : Bool) (a a2 : Option Addr) (n c m c2 : Nat) (l : Nt) (xss : List (List (IntAt w))) (h : NatS 0 w a n c l) (hG : GridAt w a2 m c2 xss) (hn : n ≤ 8796093022208) (d : Int) (hd : Hid (ival b l = d)) (hd0 : d ≠ 0) :
  Calls Tryz.prog 67 #[.agg #[.bool b, .slice a n c], .slice a2 m c2] w (RMat w (madeDen d (zssOf xss)) (madeRows d (zssOf xss))) := by
 have hdp := Lib.hid hd0
 clear hd0
 refine (callsIn_wide (n := 5)).1 ?_
 refine callsIn_of_wp_marks Tryz.func67 rfl trivial ?_ rfl
 simp only [Tryz.ntmps67, List.size_toArray, List.length_cons, List.length_nil, Nat.reduceAdd, Nat.reduceSub, Array.replicate_succ, Array.replicate_zero, List.push_toArray, List.append_toArray, List.nil_append, List.cons_append]
 gi_wp2_with (fail)
 refine ⟨trivial, (callsIn_wide.2 (gridEach_any a2 m c2 _)).mono ?_⟩
 rintro e w1 ⟨rfl, rfl⟩
 gi_wp2_with (fail)
 have p0 := Blk.new w 25 #[.bool b, .slice a n c]
 have r := Blk.new (w.alloc (Obj.cells #[.bool b, .slice a n c] 25)) 28 #[.bool false, .slice none 0 0, .slice none 0 0]
 replace p0 := p0.ext ((Below.refl _ _).alloc (Nat.le_refl _) (Obj.cells #[.bool false, .slice none 0 0, .slice none 0 0] 28))
 have g := Blk.new ((w.alloc (Obj.cells #[.bool b, .slice a n c] 25)).alloc (Obj.cells #[.bool false, .slice none 0 0, .slice none 0 0] 28)) 25 #[.bool false, .slice none 0 0]
 replace p0 := p0.ext ((Below.refl _ _).alloc (Nat.le_refl _) (Obj.cells #[.bool false, .slice none 0 0] 25))
 replace r := r.ext ((Below.refl _ _).alloc (Nat.le_refl _) (Obj.cells #[.bool false, .slice none 0 0] 25))
 have s := Blk.new (((w.alloc (Obj.cells #[.bool b, .slice a n c] 25)).alloc (Obj.cells #[.bool false, .slice none 0 0, .slice none 0 0] 28)).alloc (Obj.cells #[.bool false, .slice none 0 0] 25)) 91 #[.slice a2 m c2]
 replace p0 := p0.ext ((Below.refl _ _).alloc (Nat.le_refl _) (Obj.cells #[.slice a2 m c2] 91))
 replace r := r.ext ((Below.refl _ _).alloc (Nat.le_refl _) (Obj.cells #[.slice a2 m c2] 91))
 replace g := g.ext ((Below.refl _ _).alloc (Nat.le_refl _) (Obj.cells #[.slice a2 m c2] 91))
 have hEW : Ext w ((((w.alloc (Obj.cells #[.bool b, .slice a n c] 25)).alloc (Obj.cells #[.bool false, .slice none 0 0, .slice none 0 0] 28)).alloc (Obj.cells #[.bool false, .slice none 0 0] 25)).alloc (Obj.cells #[.slice a2 m c2] 91)) := (((((Below.refl _ w).alloc (by simp) _).alloc (by simp) _).alloc (by simp; omega) _).alloc (by simp; omega) _)
 generalize hgW : (((w.alloc (Obj.cells #[.bool b, .slice a n c] 25)).alloc (Obj.cells #[.bool false, .slice none 0 0, .slice none 0 0] 28)).alloc (Obj.cells #[.bool false, .slice none 0 0] 25)).alloc (Obj.cells #[.slice a2 m c2] 91) = W at *
 clear hgW
 simp only [World.size_alloc] at r g s
 have p0_ne_r : ¬ w.heap.size = w.heap.size + 1 := by omega
 have p0_ne_g : ¬ w.heap.size = w.heap.size + 1 + 1 := by omega
 have p0_ne_s : ¬ w.heap.size = w.heap.size + 1 + 1 + 1 := by omega
 have r_ne_p0 : ¬ w.heap.size + 1 = w.heap.size := by omega
 have r_ne_g : ¬ w.heap.size + 1 = w.heap.size + 1 + 1 := by omega
 have r_ne_s : ¬ w.heap.size + 1 = w.heap.size + 1 + 1 + 1 := by omega
 have g_ne_p0 : ¬ w.heap.size + 1 + 1 = w.heap.size := by omega
 have g_ne_r : ¬ w.heap.size + 1 + 1 = w.heap.size + 1 := by omega
 have g_ne_s : ¬ w.heap.size + 1 + 1 = w.heap.size + 1 + 1 + 1 := by omega
 have s_ne_p0 : ¬ w.heap.size + 1 + 1 + 1 = w.heap.size := by omega
 have s_ne_r : ¬ w.heap.size + 1 + 1 + 1 = w.heap.size + 1 := by omega
 have s_ne_g : ¬ w.heap.size + 1 + 1 + 1 = w.heap.size + 1 + 1 := by omega
 replace p0_0 := p0.cell (i := 0) rfl
 replace p0_1 := p0.cell (i := 1) rfl
 replace r_0 := r.cell (i := 0) rfl
 replace r_1 := r.cell (i := 1) rfl
 replace r_2 := r.cell (i := 2) rfl
 replace r_f0 := r.free 0
 replace r_f1 := r.free 1
 replace r_f2 := r.free 2
 replace r_lt := r.lt
 replace g_0 := g.cell (i := 0) rfl
 replace g_1 := g.cell (i := 1) rfl
 replace g_f0 := g.free 0
 replace g_f1 := g.free 1
 replace g_lt := g.lt
 replace s_0 := s.cell (i := 0) rfl
 have hW4 : w.heap.size + 4 ≤ W.heap.size := s.lt
 have hEWs := hEW.size
 refine wpIn_rangeFunc_ownH (α := IntAt w) rfl (by omega) (gf := 102) (lb := #[.pointer (some ⟨w.heap.size + 1 + 1 + 1, 0, none⟩)]) rfl trivial (enters_of Tryz.func102 (by kernel_rfl) rfl)
  (each_stops w W 4 (by omega) (w.heap.size + 1 + 1 + 1) a2 m c2 xss hG hEW s.lt s_0) belowK_t (belowK_b hEW.size) (Below.refl _ _) (fun _ => rfl)
  (fun pre W' => Blk W' w.heap.size 25 #[.bool b, .slice a n c] ∧ Blk W' (w.heap.size + 1) 28 #[.bool false, .slice none 0 0, .slice none 0 0] ∧ (∃ a3 n3 c3, Blk W' (w.heap.size + 1 + 1) 25 #[.bool (decide (gcds (pre.map IntAt.z) < 0)), .slice a3 n3 c3] ∧ NatS (w.heap.size + 4) W' a3 n3 c3 (limbs (gcds (pre.map IntAt.z)).natAbs)) ∧ Below w.heap.size w W' ∧ w.heap.size + 4 ≤ W'.heap.size)
  (fun _ _ _ => False)
  (fun pre A B row hs hg hr => ⟨hs.1.own hg (fun r e => (hr r e).2), hs.2.1.own hg (fun r e => (hr r e).2), (by
   obtain ⟨a3, n3, c3, h1, h2⟩ := hs.2.2.1
   exact ⟨a3, n3, c3, h1.own hg (fun r e => (hr r e).2), h2.mono (Nat.le_refl _) (kept_own hg (fun r e => (hr r e).2))⟩), hs.2.2.2.1.grown hg hs.2.2.2.1.size (fun k e => Nat.le_trans hEW.size (hr k e).1), Nat.le_trans hs.2.2.2.2 hg.size⟩)
  (fun _ _ _ _ _ hs _ _ => hs)
  ⟨p0, r, ⟨none, 0, 0, g, natS_nil _ _⟩, hEW, hW4⟩
  (fun x a' W' => ∃ Bx, w.heap.size + 4 ≤ Bx ∧ Blk W' Bx 25 #[.bool x.b, .slice x.a x.n x.c] ∧ a' = { tmps := #[.agg #[.bool b, .slice a n c], .slice a2 m c2, .pointer (some ⟨w.heap.size, 0, none⟩), undef, .pointer (some ⟨w.heap.size + 1, 0, none⟩), .pointer (some ⟨w.heap.size + 1 + 1, 0, none⟩), .pointer (some ⟨Bx, 0, none⟩), undef, undef, undef, undef, undef, undef, undef, undef, .slice a2 m c2, .func (.func 102) #[] #[.pointer (some ⟨w.heap.size + 1 + 1 + 1, 0, none⟩)], .agg #[.bool x.b, .slice x.a x.n x.c], undef, undef, undef, undef, undef, undef, undef, undef, undef, undef, undef, undef, undef, undef, undef, undef, undef, undef, undef, undef, undef, undef, undef, undef, undef, undef, undef, undef, undef, undef, undef, undef, undef, undef, undef, undef, undef, undef, undef, undef, undef, undef, undef, undef, undef, undef, undef, undef, undef, undef, undef, undef, undef, undef, undef, undef, undef, undef, undef, undef, undef, undef, undef, undef, undef], defers := [] })
  (fun x a' _ A B row hs hg hr => by
   obtain ⟨Bx, h1, h2, h3⟩ := hs
   exact ⟨Bx, h1, h2.own hg (fun r e => (hr r e).2), h3⟩)
  ?assign ?body ?done ?stop
 case assign =>
  rintro l pre x W' K ⟨h1, h2, ⟨a3, n3, c3, h3, h4⟩, h5, h6⟩ hK
  dsimp only [IntAt.v]
  have hEA : Ext W' (W'.alloc (Obj.cells #[.bool x.b, .slice x.a x.n x.c] 25)) := (Below.refl _ _).alloc (Nat.le_refl _) _
  gi_wp2
  exact hK _ _ ((KeepsOthers.alloc _ _).from _) ((Below.refl _ W').alloc h5.size _) ⟨h1.ext hEA, h2.ext hEA, ⟨a3, n3, c3, h3.ext hEA, h4.ext (Nat.le_refl _) hEA⟩, h5.alloc h5.size _, Nat.le_trans h6 hEA.size⟩ ⟨W'.heap.size, h6, Blk.new _ _ _, rfl⟩
 case body =>
  rintro l pre x a' W' hl ⟨rr, hrr⟩ ⟨h1, h2, ⟨a3, n3, c3, h3, h4⟩, h5, h6⟩ ⟨Bx, hBx, hX, rfl⟩ hlen
  skip
  skip
  replace h3_0 := h3.cell (i := 0) rfl
  replace h3_1 := h3.cell (i := 1) rfl
  replace h3_f0 := h3.free 0
  replace h3_f1 := h3.free 1
  replace h3_lt := h3.lt
  replace hX_0 := hX.cell (i := 0) rfl
  replace hX_1 := hX.cell (i := 1) rfl
  have hgn : nl (gcds (pre.map IntAt.z)).natAbs ≤ 8796093022208 := nl_gcds _ (by intro y hy; obtain ⟨u, _, rfl⟩ := List.mem_map.1 hy; exact u.nl)
  have hgs : gcds ((pre ++ [x]).map IntAt.z) = gcdI (gcds (pre.map IntAt.z)) x.z := by rw [List.map_append]; exact gcds_snoc _ _
  have HGS := Lib.hid hgs
  clear hgs
  generalize gcds (pre.map IntAt.z) = zg at *
  have hB4 : Hid (Blk (W'.alloc (Obj.cells #[.bool (decide (zg < 0)), .slice a3 n3 c3, .bool x.b, .slice x.a x.n x.c] 25)) W'.heap.size 25 #[.bool (decide (zg < 0)), .slice a3 n3 c3, .bool x.b, .slice x.a x.n x.c]) := Lib.hid (Blk.new _ _ _)
  have hEA : Ext W' (W'.alloc (Obj.cells #[.bool (decide (zg < 0)), .slice a3 n3 c3, .bool x.b, .slice x.a x.n x.c] 25)) := (Below.refl _ _).alloc (Nat.le_refl _) _
  gi_wp2
  refine ⟨trivial, (CallsIn.inRound l (callsIn_wide.2 (zintGcd_any 0 _ _ 2 2 (decide (zg < 0), limbs zg.natAbs) (x.b, x.l) (ints2 hB4.out (Nat.zero_le _) (h4.ext (Nat.zero_le _) hEA) (x.h.ext (Nat.le_refl _) (h5.trans (hEA.mono h5.size)))) (by rw [length_limbs]; exact hgn) (by rw [x.h.len]; exact x.hn) zg x.z (hnorm zg) (Lib.hid rfl)))).mono ?_⟩
  rintro e W2 ⟨a5, n5, c5, rfl, h7, hE2⟩
  have hE3 := Ext.trans hEA hE2
  have h1 := h1.ext hE3
  have h2 := h2.ext hE3
  replace h3 := h3.ext hE3; replace h3_0 := h3.cell (i := 0) rfl; replace h3_1 := h3.cell (i := 1) rfl; replace h3_f0 := h3.free 0; replace h3_f1 := h3.free 1; replace h3_lt := h3.lt
  rw [show ((Int.gcd zg x.z : Nat) : Int) = gcdI zg x.z from rfl] at h7 ⊢
  rw [← HGS.out] at h7 ⊢
  generalize hz2 : gcds ((pre ++ [x]).map IntAt.z) = z2 at *
  have HZ2 := Lib.hid hz2
  clear hz2
  gi_wp2
  refine ⟨(((keepsOthers_ext hE3).trans (KeepsOthers.setCell _ _ _)).trans (KeepsOthers.setCell _ _ _)).from _, (((hE3.mono h5.size).setCell (p := ⟨w.heap.size + 1 + 1, 0, none⟩) (by simp; omega) _).setCell (p := ⟨w.heap.size + 1 + 1, 1, none⟩) (by simp; omega) _), (h1.set_ne 0 _ (by omega)).set_ne 1 _ (by omega), (h2.set_ne 0 _ (by omega)).set_ne 1 _ (by omega), ?_, ?_, ?_⟩
  ·refine ⟨a5, n5, c5, ?_, ?_⟩
   ·rw [HZ2.out]; exact (h3.set 0 _).set 1 _
   ·rw [HZ2.out]; exact (h7.mono (B' := w.heap.size + 4) (by simp; omega) (Kept.refl _ _)).mono (Nat.le_refl _) (Kept.trans (kept_set _ _ _ (by omega)) (kept_set _ _ _ (by omega)))
  ·exact h5.trans (((hE3.mono h5.size).setCell (p := ⟨w.heap.size + 1 + 1, 0, none⟩) (by simp; omega) _).setCell (p := ⟨w.heap.size + 1 + 1, 1, none⟩) (by simp; omega) _)
  ·have := hE3.size
   simp [World.setCell]; omega
 case done =>
  rintro D xs W' hD rfl ⟨h1, h2, ⟨a3, n3, c3, h3, h4⟩, h5, h6⟩ hK
  generalize hzg : gcds (xss.flatten.map IntAt.z) = zg at *
  have hgn : nl zg.natAbs ≤ 8796093022208 := by rw [← hzg]; exact nl_gcds _ (by intro y hy; obtain ⟨u, _, rfl⟩ := List.mem_map.1 hy; exact u.nl)
  have HZG := Lib.hid hzg
  have HM : Hid (MSt w b a n c D zg W') := Lib.hid ⟨h1, h2, ⟨a3, n3, c3, h3, h4⟩, h5, h6, hK⟩
  have HN4 := Lib.hid h4
  clear hzg hK h5 h4 p0 r g s p0_0 p0_1 r_0 r_1 r_2 r_f0 r_f1 r_f2 r_lt g_0 g_1 g_f0 g_f1 g_lt s_0 hEW
  skip
  skip
  replace h1_0 := h1.cell (i := 0) rfl
  replace h1_1 := h1.cell (i := 1) rfl
  replace h3_0 := h3.cell (i := 0) rfl
  replace h3_1 := h3.cell (i := 1) rfl
  replace h3_f0 := h3.free 0
  replace h3_f1 := h3.free 1
  replace h3_lt := h3.lt
  gi_upto_if 24 with (fail)
  refine ⟨trivial, (callsIn_wide.2 (zintSign_z _ _ _ _ _ _ _ zg HN4.out (by have := len_norm HN4.out; omega) (hnorm zg))).mono ?_⟩
  rintro e W2 ⟨rfl, hE2⟩
  have HM2 := Lib.hid (HM.out.ext hE2)
  have HN5 := Lib.hid (HN4.out.ext (Nat.le_refl _) hE2)
  have hlow := HM2.out.low
  replace h1 := h1.ext hE2; replace h1_0 := h1.cell (i := 0) rfl; replace h1_1 := h1.cell (i := 1) rfl; replace h3 := h3.ext hE2; replace h3_0 := h3.cell (i := 0) rfl; replace h3_1 := h3.cell (i := 1) rfl; replace h3_f0 := h3.free 0; replace h3_f1 := h3.free 1; replace h3_lt := h3.lt
  gi_upto_if 24 with (fail)
  gi_cut [] from 18 (fun wx => Hid (MSt w b a n c D (gcdI zg d) wx))
  case first =>
   by_cases hz0 : zg = 0
   ·have hs : (zg.sign == 0) = true := by subst hz0; rfl
    have hg0 : gcdI zg d = (d.natAbs : Int) := by subst hz0; unfold gcdI; rw [Int.gcd_zero_left]
    have HG0 := Lib.hid hg0
    clear hz0 hg0
    generalize zg.sign = sg at *
    gi_wp2
    refine ⟨trivial, (callsIn_wide.2 (zintAbs_z b 0 W2 a n c l d (h.ext (Nat.le_refl _) hlow) (by omega) hd)).mono ?_⟩
    rintro e W3 ⟨a5, n5, c5, rfl, h7, hE3⟩
    have HM3 := Lib.hid ((HM2.out.ext hE3).set (h7.mono (B' := w.heap.size + 4) HM2.out.sz (Kept.refl _ _)))
    replace h3 := h3.ext hE3; replace h3_0 := h3.cell (i := 0) rfl; replace h3_1 := h3.cell (i := 1) rfl; replace h3_f0 := h3.free 0; replace h3_f1 := h3.free 1; replace h3_lt := h3.lt
    rw [← HG0.out] at *
    generalize gcdI zg d = zz at *
    gi_wp2
    gi_meet
    exact HM3
   ·have hs : (zg.sign == 0) = false := by simpa using hz0
    clear hz0
    generalize zg.sign = sg at *
    have hB4 : Hid (Blk (W2.alloc (Obj.cells #[.bool (decide (zg < 0)), .slice a3 n3 c3, .bool b, .slice a n c] 25)) W2.heap.size 25 #[.bool (decide (zg < 0)), .slice a3 n3 c3, .bool b, .slice a n c]) := Lib.hid (Blk.new _ _ _)
    have hEA : Ext W2 (W2.alloc (Obj.cells #[.bool (decide (zg < 0)), .slice a3 n3 c3, .bool b, .slice a n c] 25)) := (Below.refl _ _).alloc (Nat.le_refl _) _
    gi_wp2
    refine ⟨trivial, (callsIn_wide.2 (zintGcd_any 0 _ _ 2 2 (decide (zg < 0), limbs zg.natAbs) (b, l) (ints2 hB4.out (Nat.zero_le _) (HN5.out.ext (Nat.zero_le _) hEA) (h.ext (Nat.le_refl _) (hlow.trans (hEA.mono hlow.size)))) (by rw [length_limbs]; exact hgn) (by rw [h.len]; exact hn) zg d (hnorm zg) hd)).mono ?_⟩
    rintro e W3 ⟨a5, n5, c5, rfl, h7, hE3⟩
    have hE4 := Ext.trans hEA hE3
    have HM3 := Lib.hid ((HM2.out.ext hE4).set (h7.mono (B' := w.heap.size + 4) (Nat.le_trans HM2.out.sz hEA.size) (Kept.refl _ _)))
    replace h3 := h3.ext hE4; replace h3_0 := h3.cell (i := 0) rfl; replace h3_1 := h3.cell (i := 1) rfl; replace h3_f0 := h3.free 0; replace h3_f1 := h3.free 1; replace h3_lt := h3.lt
    rw [show ((Int.gcd zg d : Nat) : Int) = gcdI zg d from rfl] at *
    generalize gcdI zg d = zz at *
    gi_wp2
    gi_meet
    exact HM3
  case rest =>
   have hG0 : 0 < gcdI zg d := by
    unfold gcdI
    have := Int.gcd_pos_of_ne_zero_right zg hdp.out
    omega
   have hGn : nl (gcdI zg d).natAbs ≤ 8796093022208 := by
    unfold gcdI
    rw [Int.natAbs_natCast]
    exact nl_gcd hgn (Nat.le_trans (nl_of h hd) hn)
   have hGd : gcdI zg d ∣ d := by unfold gcdI; exact Int.gcd_dvd_right ..
   have hGx : ∀ x ∈ xss.flatten, gcdI zg d ∣ x.z := fun x hx => by
    have h1 : zg ∣ x.z := by rw [← HZG.out]; exact gcds_dvd _ _ (List.mem_map_of_mem hx)
    exact Int.dvd_trans (by unfold gcdI; exact Int.gcd_dvd_left ..) h1
   have HC := hcut
   clear hcut HM2 HN5 HM HN4 hgn h1 h2 h3 h6
   generalize hGE : gcdI zg d = G at *
   have HGE := Lib.hid hGE
   clear hGE
   have h1 := HC.out.p0
   obtain ⟨a3, n3, c3, h3, hN3⟩ := HC.out.g
   have HN3 := Lib.hid hN3
   have hlow := HC.out.low
   clear hN3
   replace h1_0 := h1.cell (i := 0) rfl
   replace h1_1 := h1.cell (i := 1) rfl
   replace h3_0 := h3.cell (i := 0) rfl
   replace h3_1 := h3.cell (i := 1) rfl
   replace h3_f0 := h3.free 0
   replace h3_f1 := h3.free 1
   replace h3_lt := h3.lt
   gi_upto_if 33 with (fail)
   refine ⟨trivial, (callsIn_wide.2 (zintSign_z b 0 wc a n c l d (h.ext (Nat.le_refl _) hlow) (by omega) hd)).mono ?_⟩
   rintro e W4 ⟨rfl, hE4⟩
   have HM4 := Lib.hid (HC.out.ext hE4)
   have HN5 := Lib.hid (HN3.out.ext (Nat.le_refl _) hE4)
   replace h1 := h1.ext hE4; replace h1_0 := h1.cell (i := 0) rfl; replace h1_1 := h1.cell (i := 1) rfl; replace h3 := h3.ext hE4; replace h3_0 := h3.cell (i := 0) rfl; replace h3_1 := h3.cell (i := 1) rfl; replace h3_f0 := h3.free 0; replace h3_f1 := h3.free 1; replace h3_lt := h3.lt
   gi_upto_if 33 with (fail)
   gi_cut [] from 18 (fun wx => Hid (MSt w b a n c D (if d < 0 then -G else G) wx))
   case first =>
    by_cases hdn : d < 0
    ·gi_wp2
     refine ⟨trivial, (callsIn_wide.2 (zintNeg_z _ _ W4 a3 n3 c3 _ G HN5.out (by have := len_norm HN5.out; omega) (hnorm G))).mono ?_⟩
     rintro e W5 ⟨a5, n5, c5, rfl, h7, hE5⟩
     have HM5 := Lib.hid ((HM4.out.ext hE5).set (h7.mono (B' := w.heap.size + 4) HM4.out.sz (Kept.refl _ _)))
     replace h3 := h3.ext hE5; replace h3_0 := h3.cell (i := 0) rfl; replace h3_1 := h3.cell (i := 1) rfl; replace h3_f0 := h3.free 0; replace h3_f1 := h3.free 1; replace h3_lt := h3.lt
     generalize -G = zz at *
     gi_wp2
     gi_meet
     rw [if_pos hdn]
     exact HM5
    ·gi_wp2
     gi_meet
     rw [if_neg (by omega)]
     exact HM4
   case rest =>
    rename World => wb
    have hG1 : Hid ((if d < 0 then -G else G) ≠ 0) := Lib.hid (by split <;> omega)
    have hG2 : Hid ((if d < 0 then -G else G) ∣ d) := Lib.hid (by split; exact Int.neg_dvd.2 hGd; exact hGd)
    have hG3 : Hid (∀ x ∈ xss.flatten, (if d < 0 then -G else G) ∣ x.z) := Lib.hid (fun x hx => by split; exact Int.neg_dvd.2 (hGx x hx); exact hGx x hx)
    have HC2 := hcut
    clear hcut HM4 HN5 HN3 HC h1 h3 hGd hGx hlow
    generalize hg1 : (if d < 0 then -G else G) = g1 at *
    have HG1 := Lib.hid hg1
    clear hg1
    have h1 := HC2.out.p0
    have hrr := HC2.out.r
    obtain ⟨a5, n5, c5, h3, hN3⟩ := HC2.out.g
    have HN3 := Lib.hid hN3
    have hlow := HC2.out.low
    have hsz := HC2.out.sz
    clear hN3
    skip
    skip
    skip
    replace h1_0 := h1.cell (i := 0) rfl
    replace h1_1 := h1.cell (i := 1) rfl
    replace h1_f0 := h1.free 0
    replace h1_f1 := h1.free 1
    replace h1_lt := h1.lt
    replace h3_0 := h3.cell (i := 0) rfl
    replace h3_1 := h3.cell (i := 1) rfl
    replace h3_f0 := h3.free 0
    replace h3_f1 := h3.free 1
    replace h3_lt := h3.lt
    replace hrr_0 := hrr.cell (i := 0) rfl
    replace hrr_1 := hrr.cell (i := 1) rfl
    replace hrr_2 := hrr.cell (i := 2) rfl
    replace hrr_f0 := hrr.free 0
    replace hrr_f1 := hrr.free 1
    replace hrr_f2 := hrr.free 2
    replace hrr_lt := hrr.lt
    gi_upto_region 11 with (fail)
    have o := Blk.new wb 28 #[.bool false, .slice none 0 0, .slice none 0 0]
    have hEW6 : Ext wb (wb.alloc (Obj.cells #[.bool false, .slice none 0 0, .slice none 0 0] 28)) := ((Below.refl _ wb).alloc (by simp) _)
    generalize hgW6 : wb.alloc (Obj.cells #[.bool false, .slice none 0 0, .slice none 0 0] 28) = W6 at *
    clear hgW6
    replace o_0 := o.cell (i := 0) rfl
    replace o_1 := o.cell (i := 1) rfl
    replace o_2 := o.cell (i := 2) rfl
    replace o_f0 := o.free 0
    replace o_f1 := o.free 1
    replace o_f2 := o.free 2
    replace o_lt := o.lt
    replace h1 := h1.ext hEW6; replace h1_0 := h1.cell (i := 0) rfl; replace h1_1 := h1.cell (i := 1) rfl; replace h1_f0 := h1.free 0; replace h1_f1 := h1.free 1; replace h1_lt := h1.lt; replace h3 := h3.ext hEW6; replace h3_0 := h3.cell (i := 0) rfl; replace h3_1 := h3.cell (i := 1) rfl; replace h3_f0 := h3.free 0; replace h3_f1 := h3.free 1; replace h3_lt := h3.lt; replace hrr := hrr.ext hEW6; replace hrr_0 := hrr.cell (i := 0) rfl; replace hrr_1 := hrr.cell (i := 1) rfl; replace hrr_2 := hrr.cell (i := 2) rfl; replace hrr_f0 := hrr.free 0; replace hrr_f1 := hrr.free 1; replace hrr_f2 := hrr.free 2; replace hrr_lt := hrr.lt
    have hlow6 := hlow.trans (hEW6.mono hlow.size)
    have HN6 := Lib.hid (HN3.out.ext (Nat.le_refl _) hEW6)
    have hoW := o_lt
    clear HN3 hlow
    gi_upto_region 12 with (fail)
    refine ⟨trivial, (callsIn_wide.2 (zintExact_z b _ 0 W6 a a5 n c n5 c5 l _ d g1 (h.ext (Nat.le_refl _) hlow6) (HN6.out.mono (Nat.zero_le _) (Kept.refl _ _)) hn hd (hnorm g1) hG1.out hG2.out)).mono ?_⟩
    rintro e W7 ⟨v7, rfl, ⟨a7, n7, c7, rfl, h7⟩, hE7⟩
    replace h1 := h1.ext hE7; replace h1_0 := h1.cell (i := 0) rfl; replace h1_1 := h1.cell (i := 1) rfl; replace h1_f0 := h1.free 0; replace h1_f1 := h1.free 1; replace h1_lt := h1.lt; replace h3 := h3.ext hE7; replace h3_0 := h3.cell (i := 0) rfl; replace h3_1 := h3.cell (i := 1) rfl; replace h3_f0 := h3.free 0; replace h3_f1 := h3.free 1; replace h3_lt := h3.lt; replace hrr := hrr.ext hE7; replace hrr_0 := hrr.cell (i := 0) rfl; replace hrr_1 := hrr.cell (i := 1) rfl; replace hrr_2 := hrr.cell (i := 2) rfl; replace hrr_f0 := hrr.free 0; replace hrr_f1 := hrr.free 1; replace hrr_f2 := hrr.free 2; replace hrr_lt := hrr.lt; replace o := o.ext hE7; replace o_0 := o.cell (i := 0) rfl; replace o_1 := o.cell (i := 1) rfl; replace o_2 := o.cell (i := 2) rfl; replace o_f0 := o.free 0; replace o_f1 := o.free 1; replace o_f2 := o.free 2; replace o_lt := o.lt
    have hEc := Ext.trans hEW6 hE7
    generalize hdg : d / g1 = dg at *
    have HDG := Lib.hid hdg
    clear HN6 hlow6 hEW6 hE7 hdg
    gi_upto_region 12 with (fail)
    replace o := o.set 0 (.bool (decide (dg < 0)))
    replace h1 := h1.set_ne 0 (.bool (decide (dg < 0))) (show w.heap.size ≠ wb.heap.size by omega)
    replace h3 := h3.set_ne 0 (.bool (decide (dg < 0))) (show (w.heap.size + 1 + 1) ≠ wb.heap.size by omega)
    replace hrr := hrr.set_ne 0 (.bool (decide (dg < 0))) (show (w.heap.size + 1) ≠ wb.heap.size by omega)
    replace o := o.set 1 (.slice a7 n7 c7)
    replace h1 := h1.set_ne 1 (.slice a7 n7 c7) (show w.heap.size ≠ wb.heap.size by omega)
    replace h3 := h3.set_ne 1 (.slice a7 n7 c7) (show (w.heap.size + 1 + 1) ≠ wb.heap.size by omega)
    replace hrr := hrr.set_ne 1 (.slice a7 n7 c7) (show (w.heap.size + 1) ≠ wb.heap.size by omega)
    have hKW8 : ∀ bB_ : Nat, wb.heap.size < bB_ → Kept bB_ W7 (((W7).setCell ⟨wb.heap.size, 0, none⟩ (.bool (decide (dg < 0)))).setCell ⟨wb.heap.size, 1, none⟩ (.slice a7 n7 c7)) := fun bB_ h0 => (Kept.trans (kept_set _ _ _ h0) (kept_set _ _ _ h0))
    have hzW8 : W7.heap.size ≤ (((W7).setCell ⟨wb.heap.size, 0, none⟩ (.bool (decide (dg < 0)))).setCell ⟨wb.heap.size, 1, none⟩ (.slice a7 n7 c7)).heap.size := by simp only [World.setCell, Array.size_modify]; exact Nat.le_refl _
    have hSW8 : ∀ (nB_ : Nat) (uB_ : World), nB_ ≤ wb.heap.size → Below nB_ uB_ W7 → Below nB_ uB_ (((W7).setCell ⟨wb.heap.size, 0, none⟩ (.bool (decide (dg < 0)))).setCell ⟨wb.heap.size, 1, none⟩ (.slice a7 n7 c7)) := fun nB_ uB_ h0 hb => (Below.setCell (Below.setCell hb (p := ⟨wb.heap.size, 0, none⟩) h0 (.bool (decide (dg < 0)))) (p := ⟨wb.heap.size, 1, none⟩) h0 (.slice a7 n7 c7))
    replace o : Blk (((W7).setCell ⟨wb.heap.size, 0, none⟩ (.bool (decide (dg < 0)))).setCell ⟨wb.heap.size, 1, none⟩ (.slice a7 n7 c7)) (wb.heap.size) 28 #[.bool (decide (dg < 0)), .slice a7 n7 c7, .slice none 0 0] := o
    generalize hgW8 : ((W7).setCell ⟨wb.heap.size, 0, none⟩ (.bool (decide (dg < 0)))).setCell ⟨wb.heap.size, 1, none⟩ (.slice a7 n7 c7) = W8 at *
    clear hgW8
    replace o_0 := o.cell (i := 0) rfl
    replace o_1 := o.cell (i := 1) rfl
    replace o_2 := o.cell (i := 2) rfl
    replace o_f0 := o.free 0
    replace o_f1 := o.free 1
    replace o_f2 := o.free 2
    replace o_lt := o.lt
    replace h1_0 := h1.cell (i := 0) rfl
    replace h1_1 := h1.cell (i := 1) rfl
    replace h1_f0 := h1.free 0
    replace h1_f1 := h1.free 1
    replace h1_lt := h1.lt
    replace h3_0 := h3.cell (i := 0) rfl
    replace h3_1 := h3.cell (i := 1) rfl
    replace h3_f0 := h3.free 0
    replace h3_f1 := h3.free 1
    replace h3_lt := h3.lt
    replace hrr_0 := hrr.cell (i := 0) rfl
    replace hrr_1 := hrr.cell (i := 1) rfl
    replace hrr_2 := hrr.cell (i := 2) rfl
    replace hrr_f0 := hrr.free 0
    replace hrr_f1 := hrr.free 1
    replace hrr_f2 := hrr.free 2
    replace hrr_lt := hrr.lt
    have h8 := h7.mono (Nat.le_refl _) (hKW8 _ hoW)
    have hEc := hSW8 _ _ (Nat.le_refl _) hEc
    have H8 := Lib.hid (h8.mono (B' := wb.heap.size + 1) hoW (Kept.refl _ _))
    have HEc := Lib.hid hEc
    have hlow8 := HC2.out.low.trans (hEc.mono HC2.out.low.size)
    clear h7 h8 hEc hKW8 hSW8
    gi_upto_if 46 with (fail)
    refine ⟨trivial, (callsIn_wide.2 (gridCols_any w W8 a2 m c2 xss hG hlow8)).mono ?_⟩
    rintro e W9 ⟨rfl, rfl⟩
    gi_upto_if 46 with (fail)
    gi_cut [] from 18 (fun wx => ∃ a8 n8 c8, Hid (Blk wx wb.heap.size 28 #[.bool (decide ((if colsOf xss = 0 then 1 else dg) < 0)), .slice a8 n8 c8, .slice none 0 0]) ∧ Hid (NatS (wb.heap.size + 1) wx a8 n8 c8 (limbs (if colsOf xss = 0 then 1 else dg).natAbs)) ∧ Hid (Ext wb wx))
    case first =>
     have hrc : (⟨wb.heap.size, 0, none⟩ : Addr).block = wb.heap.size := rfl
     by_cases hc0 : colsOf xss = 0
     ·have hcz : ((colsOf xss : Int) == 0) = true := by rw [hc0]; rfl
      have HCZ := Lib.hid hc0
      clear hc0
      generalize (colsOf xss : Int) = cz at *
      gi_wp2
      have hoW9 := o_lt
      refine ⟨trivial, (callsIn_wide.2 (zintOf_any 1 W9 (by omega) (by omega))).mono ?_⟩
      rintro e W10 ⟨a10, n10, c10, rfl, h10, hE10⟩
      replace o := o.ext hE10; replace o_0 := o.cell (i := 0) rfl; replace o_1 := o.cell (i := 1) rfl; replace o_2 := o.cell (i := 2) rfl; replace o_f0 := o.free 0; replace o_f1 := o.free 1; replace o_f2 := o.free 2; replace o_lt := o.lt
      gi_wp2
      gi_meet
      have hE11 := Ext.trans HEc.out hE10
      refine ⟨a10, n10, c10, ?_, ?_, Lib.hid (Below.setCell (Below.setCell hE11 (p := ⟨wb.heap.size, 0, none⟩) (Nat.le_refl _) _) (p := ⟨wb.heap.size, 1, none⟩) (Nat.le_refl _) _)⟩
      ·rw [if_pos HCZ.out]
       exact Lib.hid ((o.set 0 _).set 1 _)
      ·rw [if_pos HCZ.out]
       exact Lib.hid ((h10.mono (Nat.le_refl _) (Kept.trans (kept_set _ _ _ hoW9) (kept_set _ _ _ hoW9))).mono hoW9 (Kept.refl _ _))
     ·have hcz : ((colsOf xss : Int) == 0) = false := by simpa using hc0
      have HCZ := Lib.hid hc0
      clear hc0
      generalize (colsOf xss : Int) = cz at *
      gi_wp2
      gi_meet
      exact ⟨a7, n7, c7, by rw [if_neg HCZ.out]; exact Lib.hid o, by rw [if_neg HCZ.out]; exact H8, HEc⟩
    case rest =>
     obtain ⟨a8, n8, c8, HO, HN8, HEx⟩ := hcut
     have HM := Lib.hid (HC2.out.ext HEx.out)
     clear HEc H8 o h1 h3 hrr h1_0 h1_1 h1_f0 h1_f1 h1_lt h3_0 h3_1 h3_f0 h3_f1 h3_lt hrr_0 hrr_1 hrr_2 hrr_f0 hrr_f1 hrr_f2 hrr_lt o_0 o_1 o_2 o_f0 o_f1 o_f2 o_lt hlow8
     generalize hde : (if colsOf xss = 0 then 1 else dg) = de at *
     have HDE := Lib.hid hde
     clear hde
     rename World => wd
     have HGR := Lib.hid hG
     have hm := hG.most
     have HHL := HM.out.low
     have hwbd := HO.out.lt
     clear hG hGn hG0 hdp
     gi_wp2
     gi_loopg [51] m (fun k vi wr => ∃ (i : Nat) (vo : Value), i ≤ m ∧ k = m - i ∧ vi = .int .i64 (i : Int) ∧ Hid (Blk wr wb.heap.size 28 #[.bool (decide (de < 0)), .slice a8 n8 c8, vo]) ∧ wd.heap.size ≤ wr.heap.size ∧ Hid (∃ css, Grp rRowsN wd.heap.size 30 wr vo i ((zssOf (xss.take i)).map fun zs => zs.map fun z => z / g1) css) ∧ Hid (∀ b, wb.heap.size + 1 ≤ b → b < wd.heap.size → wr.heap[b]? = wd.heap[b]?) ∧ Hid (Ext wb wr))
     case atStart => exact ⟨0, _, Nat.zero_le _, rfl, rfl, HO, Nat.le_refl _, Lib.hid ⟨[], Grp.nil _ _ _ _⟩, Lib.hid (fun _ _ _ => rfl), HEx⟩
     case round =>
      obtain ⟨i, vo, hi, hk, rfl, HB, hwr, HGp, HNi, HEr⟩ := hrel
      by_cases him : i < m
      ·rename World => wo
       obtain ⟨b2, o2, rfl, hb2, hcs⟩ := HGR.out.cells (by omega)
       have hil : i < xss.length := by rw [HGR.out.len]; exact him
       obtain ⟨a1, n1, c1, hc1, hrow⟩ := hcs i hil
       have HMr := Lib.hid (HC2.out.ext HEr.out)
       have hlr := HMr.out.low
       have hc2 := (hlr.cell (p := ⟨b2, o2 + i, none⟩) hb2).trans hc1
       have HRow := Lib.hid hrow
       have hn1 := hrow.most
       obtain ⟨cur, hcur, hmk⟩ := make_any under_ints info_int 0 n1 (Nat.zero_le _) (by omega) (by omega)
       have hmk : ∀ w, (Instr.makeSlice 30 (.int .i64 0) (.int .i64 (n1 : Int))).run Tryz.prog w = .ok (.slice (some ⟨w.heap.size, 0, none⟩) 0 n1) (w.alloc (.cells cur 25)) := hmk
       have HCur := Lib.hid hcur
       obtain ⟨a6, n6, c6, hg6, hN6⟩ := HMr.out.g
       have HN6 := Lib.hid hN6
       have hob := HB.out
       clear hc1 hcs hrow hcur hN6
       skip
       replace hg6_0 := hg6.cell (i := 0) rfl
       replace hg6_1 := hg6.cell (i := 1) rfl
       replace hg6_f0 := hg6.free 0
       replace hg6_f1 := hg6.free 1
       replace hg6_lt := hg6.lt
       have hEA : Ext wo (wo.alloc (Obj.cells cur 25)) := (Below.refl _ _).alloc (Nat.le_refl _) _
       have hG0 : Grp rIntN wo.heap.size 25 (wo.alloc (Obj.cells cur 25)) (.slice (some ⟨wo.heap.size, 0, none⟩) 0 n1) 0 [] [] := ⟨rfl, rfl, World.ownsRow_made wo cur n1 (Nat.le_refl _) (by unfold maxLen; omega) HCur.out, fun k hk => absurd hk (by simp)⟩
       have HG0 := Lib.hid hG0
       clear hG0
       generalize hxs : xss[i]'hil = xs at *
       have HXS := Lib.hid hxs
       clear hxs
       gi_wp2
       gi_loopg [10, 60] n1 (fun k vr vi w2 => ∃ (j : Nat), j ≤ n1 ∧ k = n1 - j ∧ vi = .int .i64 (j : Int) ∧ Hid (∃ css, Grp rIntN wo.heap.size 25 w2 vr j ((xs.take j).map fun x => x.z / g1) css) ∧ Hid (Ext wo w2))
       case atStart => exact ⟨0, Nat.zero_le _, rfl, rfl, Lib.hid ⟨[], HG0.out⟩, Lib.hid hEA⟩
       case round =>
        obtain ⟨j, hj, hk2, rfl, HGj, HEj⟩ := hrel
        by_cases hjn : j < n1
        ·obtain ⟨b3, o3, rfl, hb3, hcs3⟩ := HRow.out.cells (by omega)
         have hjl : j < xs.length := by rw [HRow.out.len]; exact hjn
         obtain ⟨hd1, hd2⟩ := hcs3 j hjl
         have hlow3 := hlr.trans (HEj.out.mono hlr.size)
         have hd1 := (hlow3.cell (p := ⟨b3, o3 + j * 2, none⟩) hb3).trans hd1
         have hd2 := (hlow3.cell (p := ⟨b3, o3 + j * 2 + 1, none⟩) hb3).trans hd2
         have HT : Hid ((xs.take (j + 1)).map (fun x => x.z / g1) = (xs.take j).map (fun x => x.z / g1) ++ [xs[j].z / g1]) := Lib.hid (by rw [List.take_succ_eq_append_getElem hjl, List.map_append]; rfl)
         have HDV : Hid (g1 ∣ xs[j].z) := Lib.hid (hG3.out _ (by
          rw [List.mem_flatten]
          exact ⟨xs, by rw [← HXS.out]; exact List.getElem_mem _, List.getElem_mem _⟩))
         clear hcs3
         generalize xs[j] = x at *
         have hg6 := hg6.ext HEj.out
         replace hg6_0 := hg6.cell (i := 0) rfl
         replace hg6_1 := hg6.cell (i := 1) rfl
         replace hg6_f0 := hg6.free 0
         replace hg6_f1 := hg6.free 1
         replace hg6_lt := hg6.lt
         have hEX : Ext wr (wr.alloc (Obj.cells #[.bool x.b, .slice x.a x.n x.c] 25)) := (Below.refl _ _).alloc (Nat.le_refl _) _
         gi_wp2
         refine ⟨trivial, (callsIn_wide.2 (zintExact_z x.b _ 0 _ x.a a6 x.n x.c n6 c6 x.l _ x.z g1 (x.h.ext (Nat.le_refl _) (hlow3.trans (hEX.mono hlow3.size))) (HN6.out.ext (Nat.zero_le _) (Ext.trans HEj.out hEX)) x.hn (Lib.hid rfl) (hnorm g1) hG1.out HDV.out)).mono ?_⟩
         rintro e W7 ⟨v7, rfl, ⟨a7, n7, c7, rfl, h7⟩, hE7⟩
         have hE8 := Ext.trans hEX hE7
         generalize x.z / g1 = zq at *
         have hQ1 : Ext W7 (W7.alloc (Obj.cells #[.bool (decide (zq < 0)), .slice a7 n7 c7] 25)) := (Below.refl _ _).alloc (Nat.le_refl _) _
         have hQ2 := Ext.trans hQ1 ((Below.refl _ _).alloc (Nat.le_refl _) (Obj.cells #[.bool (decide (zq < 0)), .slice a7 n7 c7] 25))
         have hEL : Blk ((W7.alloc (Obj.cells #[.bool (decide (zq < 0)), .slice a7 n7 c7] 25)).alloc (Obj.cells #[.bool (decide (zq < 0)), .slice a7 n7 c7] 25)) (W7.heap.size + 1) 25 #[.bool (decide (zq < 0)), .slice a7 n7 c7] := by have := Blk.new (W7.alloc (Obj.cells #[.bool (decide (zq < 0)), .slice a7 n7 c7] 25)) 25 #[.bool (decide (zq < 0)), .slice a7 n7 c7]; simpa only [World.size_alloc] using this
         have hE9 := Ext.trans hE8 hQ2
         obtain ⟨css, hGj⟩ := HGj.out
         have hlt10 := hGj.own.lt
         have hG9 := Lib.hid (hGj.keep hE9.size (fun b _ h2 => hE9.block b h2))
         have H79 := Lib.hid (h7.ext (Nat.le_refl _) hQ2)
         have HE9 := Lib.hid (Ext.trans HEj.out hE9)
         obtain ⟨i0, hi0, hz0, hz1, hz2⟩ := info_parts info_int
         have hnews : ∀ (j' : Nat) (u : Value), [Value.bool (decide (zq < 0)), .slice a7 n7 c7][j']? = some u → ((W7.alloc (Obj.cells #[.bool (decide (zq < 0)), .slice a7 n7 c7] 25)).alloc (Obj.cells #[.bool (decide (zq < 0)), .slice a7 n7 c7] 25)).cell? ((⟨W7.heap.size + 1, 0, none⟩ : Addr).add j') = some u := fun j' u hu => by
          match j', hu with
          | 0, hu => cases hu; exact hEL.cell (i := 0) rfl
          | 1, hu => cases hu; exact hEL.cell (i := 1) rfl
          | k + 2, hu => simp at hu
         clear hGj h7 hE9 hEL hE8
         gi_wp2_with (gi_at_builtin; refine wpListIn_append_own_at _ rfl _ _ 30 rfl wo.heap.size 25 i0 _ 2 32 under_ints hi0 hz0 hz1 hz2 rfl (by decide) _ _ _ rfl hG9.out.own ⟨W7.heap.size + 1, 0, none⟩ 1 1 [.bool (decide (zq < 0)), .slice a7 n7 c7] rfl rfl hnews (by simp [Value.oneCell']) (by unfold maxLen; omega) (by omega) (by have := HE9.out.size; exact this) ?_; intro v' w1 hown' hgrow _ hat)
         gi_roundg (n1 - (j + 1))
         case measure => omega
         case rel =>
          refine ⟨j + 1, by omega, rfl, by go_num, Lib.hid ⟨css ++ [[.bool (decide (zq < 0)), .slice a7 n7 c7]], ?_⟩, Lib.hid (HE9.out.grown hgrow HE9.out.size (fun k e => (hlt10 k e).1))⟩
          rw [HT.out]
          exact hG9.out.add hown' hgrow hat (x := zq) ⟨a7, n7, c7, rfl, H79.out⟩ (Nat.le_trans HEj.out.size hEX.size) (fun k e => Nat.lt_of_lt_of_le (hlt10 k e).2 hEX.size)
        ·obtain rfl : j = n1 := by omega
         obtain ⟨css, hGj⟩ := HGj.out
         rw [List.take_of_length_le (by rw [HRow.out.len]; omega)] at hGj
         obtain ⟨ar, cr, rfl, hsr⟩ := hGj.sl
         have hobl := HB.out.lt
         have hob := hob.ext HEj.out
         have hEB : Ext wr (wr.alloc (Obj.cells #[.slice ar j cr] 30)) := (Below.refl _ _).alloc (Nat.le_refl _) _
         have hEB2 := Ext.trans HEj.out hEB
         obtain ⟨css2, hGo⟩ := HGp.out
         have hlt11 := hGo.own.lt
         have hG11 := Lib.hid (hGo.keep hEB2.size (fun b _ h2 => hEB2.block b h2))
         have H11 := Lib.hid (hsr.ext (Nat.le_refl _) hEB)
         have hEB2s := hEB2.size
         have HN11 : Hid (∀ b, wb.heap.size + 1 ≤ b → b < wd.heap.size → (wr.alloc (Obj.cells #[.slice ar j cr] 30)).heap[b]? = wd.heap[b]?) := Lib.hid (fun b h1 h2 => (hEB2.block b (by omega)).trans (HNi.out b h1 h2))
         have HE11 := Lib.hid (Ext.trans HEr.out hEB2)
         have hob11 := hob.ext hEB
         have hnews : ∀ (j' : Nat) (u : Value), [Value.slice ar j cr][j']? = some u → (wr.alloc (Obj.cells #[.slice ar j cr] 30)).cell? ((⟨wr.heap.size, 0, none⟩ : Addr).add j') = some u := fun j' u hu => by
          match j', hu with
          | 0, hu => cases hu; exact (Blk.new wr 30 #[.slice ar j cr]).cell (i := 0) rfl
          | k + 1, hu => simp at hu
         have HT2 : Hid ((zssOf (xss.take (i + 1))).map (fun zs => zs.map fun z => z / g1) = (zssOf (xss.take i)).map (fun zs => zs.map fun z => z / g1) ++ [xs.map fun x => x.z / g1]) := Lib.hid (by
          rw [List.take_succ_eq_append_getElem hil, HXS.out]
          simp [zssOf, List.map_map, Function.comp_def])
         obtain ⟨i0, hi0, hz0, hz1, hz2⟩ := info_parts info_ints
         clear hGo hGj hEB2 hsr
         skip
         replace hob_0 := hob.cell (i := 0) rfl
         replace hob_1 := hob.cell (i := 1) rfl
         replace hob_2 := hob.cell (i := 2) rfl
         replace hob_f0 := hob.free 0
         replace hob_f1 := hob.free 1
         replace hob_f2 := hob.free 2
         replace hob_lt := hob.lt
         gi_wp2_with (gi_at_builtin; refine wpListIn_append_own_at _ rfl _ _ 26 rfl wd.heap.size 30 i0 _ 1 24 under_intss hi0 hz0 hz1 hz2 rfl (by decide) _ _ _ rfl hG11.out.own ⟨wr.heap.size, 0, none⟩ 1 1 [.slice ar j cr] rfl rfl hnews (by simp [Value.oneCell']) (by unfold maxLen; omega) (by omega) (by omega) ?_; intro v' w1 hown' hgrow _ hat; obtain ⟨g', cap', rfl⟩ := ownsRow_succ hown'; have hob := Blk.grown hob11 hgrow (fun e => by have := (hlt11 _ e.symm).1; omega); replace hob_0 := hob.cell (i := 0) rfl; replace hob_1 := hob.cell (i := 1) rfl; replace hob_2 := hob.cell (i := 2) rfl; replace hob_f0 := hob.free 0; replace hob_f1 := hob.free 1; replace hob_f2 := hob.free 2; replace hob_lt := hob.lt)
         have hob2 := hob.set 2 (.slice (some ⟨g', 0, none⟩) (i + 1) cap')
         have hGa := hG11.out.add (x := xs.map fun x => x.z / g1) (Bx := wo.heap.size) hown' hgrow hat ⟨ar, j, cr, rfl, H11.out⟩ (by omega) (fun k e => (hlt11 k e).2)
         have HEz := HE11.out.grown hgrow HE11.out.size (fun k e => by have := (hlt11 k e).1; omega)
         gi_roundg (m - (i + 1))
         case measure => omega
         case rel =>
          refine ⟨i + 1, _, by omega, rfl, by go_num, Lib.hid hob2, (by have := hgrow.size; simp only [World.setCell, Array.size_modify]; omega), Lib.hid ⟨css2 ++ [[.slice ar j cr]], ?_⟩, Lib.hid ?_, Lib.hid (HEz.setCell (p := ⟨wb.heap.size, 2, none⟩) (Nat.le_refl _) _)⟩
          ·rw [HT2.out]
           exact hGa.keep (by simp [World.setCell]) (fun b h1 _ => Below.heap_setCell _ _ _ b (by simp; omega))
          ·exact fun b h1 h2 => (Below.heap_setCell _ _ _ b (by simp; omega)).trans ((hgrow.block b (by omega) (fun e => by have := (hlt11 b e.symm).1; omega)).trans (HN11.out b h1 h2))
      ·obtain rfl : i = m := by omega
       have HNd := Lib.hid (HN8.out.mono (Nat.le_refl _) (kept_int HNi.out))
       obtain ⟨css, hGp⟩ := HGp.out
       rw [List.take_of_length_le (by rw [HGR.out.len]; omega)] at hGp
       have HMr := HC2.out.ext HEr.out
       have hrr := HMr.r
       have hob := HB.out
       have hfz : gcds (xss.flatten.map IntAt.z) = gcds (zssOf xss).flatten := by unfold zssOf; rw [List.map_flatten]
       have hmg : madeG d (zssOf xss).flatten = g1 := by unfold madeG; rw [← hfz, HZG.out, HGE.out, HG1.out]
       have hmd : madeDen d (zssOf xss) = de := by
        unfold madeDen
        rw [hmg, HDG.out, ← HDE.out]
        have : colsOf (zssOf xss) = colsOf xss := by cases xss with | nil => rfl | cons x l => simp [zssOf, colsOf]
        rw [this]
       have hmr : madeRows d (zssOf xss) = (zssOf xss).map fun zs => zs.map fun z => z / g1 := by unfold madeRows; rw [hmg]
       obtain ⟨aa, ca, rfl, hsl⟩ := hGp.sl
       skip
       skip
       replace hob_0 := hob.cell (i := 0) rfl
       replace hob_1 := hob.cell (i := 1) rfl
       replace hob_2 := hob.cell (i := 2) rfl
       replace hrr_0 := hrr.cell (i := 0) rfl
       replace hrr_1 := hrr.cell (i := 1) rfl
       replace hrr_2 := hrr.cell (i := 2) rfl
       replace hrr_f0 := hrr.free 0
       replace hrr_f1 := hrr.free 1
       replace hrr_f2 := hrr.free 2
       replace hrr_lt := hrr.lt
       have hmark := HMr.mark
       have hsl2 := hsl.mono (Nat.le_refl _) (Kept.trans (kept_set wr 0 (.bool (decide (de < 0))) (show w.heap.size + 1 < wd.heap.size by omega)) (Kept.trans (kept_set _ 1 (.slice a8 n8 c8) (show w.heap.size + 1 < wd.heap.size by omega)) (kept_set _ 2 (.slice aa i ca) (show w.heap.size + 1 < wd.heap.size by omega))))
       have hnd2 := HNd.out.mono (Nat.le_refl _) (Kept.trans (kept_set wr 0 (.bool (decide (de < 0))) (show w.heap.size + 1 < wb.heap.size + 1 by omega)) (Kept.trans (kept_set _ 1 (.slice a8 n8 c8) (show w.heap.size + 1 < wb.heap.size + 1 by omega)) (kept_set _ 2 (.slice aa i ca) (show w.heap.size + 1 < wb.heap.size + 1 by omega))))
       have hlo2 := Below.setCell (Below.setCell (Below.setCell HMr.low (p := ⟨w.heap.size + 1, 0, none⟩) (by simp) (.bool (decide (de < 0)))) (p := ⟨w.heap.size + 1, 1, none⟩) (by simp) (.slice a8 n8 c8)) (p := ⟨w.heap.size + 1, 2, none⟩) (by simp) (.slice aa i ca)
       have hr2 := ((hrr.set 0 (.bool (decide (de < 0)))).set 1 (.slice a8 n8 c8)).set 2 (.slice aa i ca)
       have hm2 := (((KeepsOthers.setCell wr ⟨w.heap.size + 1, 0, none⟩ (.bool (decide (de < 0)))).trans (KeepsOthers.setCell _ ⟨w.heap.size + 1, 1, none⟩ (.slice a8 n8 c8))).trans (KeepsOthers.setCell _ ⟨w.heap.size + 1, 2, none⟩ (.slice aa i ca))).same D _ hmark rfl
       have HS2 := Lib.hid hsl2
       have HN2 := Lib.hid hnd2
       have HL2 := Lib.hid hlo2
       have HR2 := Lib.hid hr2
       have HM2 := Lib.hid hm2
       have hDw := Nat.le_trans hEWs hD
       clear hsl2 hnd2 hlo2 hr2 hm2 hmark hsl hfz
       gi_wp2
       generalize ((wr.setCell ⟨w.heap.size + 1, 0, none⟩ (.bool (decide (de < 0)))).setCell ⟨w.heap.size + 1, 1, none⟩ (.slice a8 n8 c8)).setCell ⟨w.heap.size + 1, 2, none⟩ (.slice aa i ca) = W20 at *
       refine ⟨by simp, .inl ⟨_, _, rfl, run_takeDeferred HM2.out, ?_⟩⟩
       have hrow : ∀ r, some D = some r → ∃ o : Obj, W20.heap[r]? = some o ∧ o.isCells = false := fun r e => by cases e; exact ⟨_, HM2.out, rfl⟩
       have hgp := grownBy_putObj' W20 D (.deferred none)
       have hr3 := HR2.out.own hgp hrow
       have q0 := hr3.cell (i := 0) rfl
       have q1 := hr3.cell (i := 1) rfl
       have q2 := hr3.cell (i := 2) rfl
       refine ⟨.agg #[.bool (decide (de < 0)), .slice a8 n8 c8, .slice aa i ca], by simp [results, Tryz.results67, go_sem, q0, q1, q2], ?_⟩
       rw [hmd, hmr]
       exact ⟨a8, n8, c8, aa, i, ca, rfl, HN2.out.mono (by omega) (kept_own hgp hrow), HS2.out.mono (by omega) (kept_own hgp hrow), HL2.out.grown hgp HL2.out.size (fun k e => by cases e; omega)⟩
 case stop => rintro D c pre W' _ _ h _; exact h.elim
end Go.Proofs.YtbhenelehhiakaaGreat
namespace Go.Proofs.YtbhenelehhiakaaGreat
open Go.RowKit
theorem intsK2 {B K : Nat} {w : World} {p : Nat} {t : TypeId} {b1 b2 : Bool} {a1 a2 : Option Addr} {n1 c1 n2 c2 : Nat} {l1 l2 : Nt} {z1 z2 : Int} (h : Blk w p t #[.bool b1, .slice a1 n1 c1, .bool b2, .slice a2 n2 c2]) (hB : B ≤ p) (h1 : NatS B w a1 n1 c1 l1) (h2 : NatS B w a2 n2 c2 l2) (hz1 : ival b1 l1 = z1) (hz2 : ival b2 l2 = z2) (hn1 : n1 ≤ K) (hn2 : n2 ≤ K) :
  Sl (rIntK K) B w (some ⟨p, 0, none⟩) 2 2 [z1, z2] :=
 ⟨rfl, Nat.le_refl _, by omega, fun e => (by cases e), fun i hi => by
  obtain rfl | rfl : i = 0 ∨ i = 1 := by simp at hi; omega
  ·refine ⟨p, 0, _, rfl, ⟨b1, a1, n1, c1, l1, rfl, h1, hz1, hn1⟩, fun j hj => ?_⟩
   obtain rfl | rfl : j = 0 ∨ j = 1 := by simp at hj; omega
   ·exact ⟨hB, h.cell (i := 0) rfl, h.free 0⟩
   ·exact ⟨hB, h.cell (i := 1) rfl, h.free 1⟩
  ·refine ⟨p, 0, _, rfl, ⟨b2, a2, n2, c2, l2, rfl, h2, hz2, hn2⟩, fun j hj => ?_⟩
   obtain rfl | rfl : j = 0 ∨ j = 1 := by simp at hj; omega
   ·exact ⟨hB, h.cell (i := 2) rfl, h.free 2⟩
   ·exact ⟨hB, h.cell (i := 3) rfl, h.free 3⟩⟩
def RCommon (w : World) (D : Nat) (zs : List Int) (e : Ending) (w' : World) : Prop := ∃ a n c a2 n2 c2, e = .returned (.tuple #[.agg #[.bool false, .slice a n c], .slice a2 n2 c2]) ∧ NatS w.heap.size w' a n c (limbs D) ∧ Sl rIntN w.heap.size w' a2 n2 c2 zs ∧ Ext w w' ∧ (a2 = none ∨ ∃ g, a2 = some ⟨g, 0, none⟩)
theorem Grp.form {α : Type} {r : Rd α} {B : Nat} {e : TypeId} {w : World} {a : Option Addr} {n c k : Nat} {xs : List α} {css : List (List Value)} (h : Grp r B e w (.slice a n c) k xs css) : a = none ∨ ∃ g, a = some ⟨g, 0, none⟩ := by
 rcases h.own.2 with ⟨h0, _⟩ | ⟨g, cap, cur, h1, _⟩
 ·cases h0; exact .inl rfl
 ·cases h1; exact .inr ⟨g, rfl⟩
theorem lcms_two (m d : Nat) : lcms [(m : Int), (d : Int)] = Nat.lcm m d := by
 simp [lcms, Nat.lcm]
theorem nl_comDen (qs ys : List Rat) {K : Nat} (h : nl (comDen (qs ++ ys)) ≤ K) : nl (comDen qs) ≤ K :=
 Nat.le_trans (nl_mono (Nat.le_of_dvd (comDen_pos _) (comDen_append_dvd _ _))) h
theorem RatS.den {K : Nat} {w : World} {b b2 : Bool} {a a2 : Option Addr} {n c n2 c2 : Nat} {q : Rat} (h : RatS K w b a n c b2 a2 n2 c2 q) : nl q.den ≤ K := by
 obtain ⟨l, l2, h1, h2, h3, h4, h5, h6⟩ := h
 have e : (q.den : Int) ∣ ival b2 l2 := by
  rw [← h4]
  unfold ratv
  rw [Rat.den_divInt, if_neg h3, Int.natCast_ediv]
  refine Int.dvd_trans (Int.ediv_dvd_of_dvd (Int.natCast_dvd_natCast.2 (Int.gcd_dvd_natAbs_left _ _))) ?_
  exact Int.natAbs_dvd_self
 have h9 : q.den ≤ (ival b2 l2).natAbs := Nat.le_of_dvd (Int.natAbs_pos.2 h3) (by simpa using Int.natAbs_dvd_natAbs.2 e)
 exact Nat.le_trans (nl_mono h9) (Nat.le_trans (nl_of h2 (Lib.hid rfl)) h6)
theorem r5Int_q (b : Bool) (B : Nat) (w : World) (a : Option Addr) (n c : Nat) (l : Nt) (z : Int) (q : Rat) (h : NatS B w a n c l) (hn : n ≤ 549755813888) (hz : Hid (ival b l = z)) (hq : Hid ((z : Rat) = q)) :
  Calls Tryz.prog 133 #[.agg #[.bool b, .slice a n c]] w (RRat w q) := by
 have := r5Int_z b B w a n c l z h hn hz
 rwa [hq.out] at this
theorem rat_field0 (v0 v1 v2 v3 : Value) (w : World) : (Instr.field 75 (.agg #[v0, v1, v2, v3]) 0).run Tryz.prog w = .ok (.agg #[v0, v1]) w := by kernel_rfl
theorem rat_field1 (v0 v1 v2 v3 : Value) (w : World) : (Instr.field 75 (.agg #[v0, v1, v2, v3]) 1).run Tryz.prog w = .ok (.agg #[v2, v3]) w := by kernel_rfl
set_option maxRecDepth 100000 in
set_option maxHeartbeats 8000000 in
theorem r5Common_any (K KL : Nat) (hK : 2 * K + KL + 2 ≤ 549755813888) (w : World) (a : Option Addr) (n c : Nat) (qs : List Rat) (h : Sl (rRatK K) 0 w a n c qs) (hL : nl (comDen qs) ≤ KL) (D : Nat) (hD : Hid (comDen qs = D)) (hn40 : n ≤ 1099511627776) :
  Calls Tryz.prog 104 #[.slice a n c] w (RCommon w D (qs.map (comNum D))) := by
 have HS := Lib.hid h
 have hmost := h.most
 have hcap := h.cap
 have hlen := Lib.hid h.len
 clear h
 go_enter Tryz.func104, Tryz.ntmps104
 go_wp2_with fail
 have r := Blk.new w 25 #[.bool false, .slice none 0 0]
 have hEW : Ext w (w.alloc (Obj.cells #[.bool false, .slice none 0 0] 25)) := ((Below.refl _ w).alloc (by simp) _)
 generalize hgW : w.alloc (Obj.cells #[.bool false, .slice none 0 0] 25) = W at *
 clear hgW
 replace r_0 := r.cell (i := 0) rfl
 replace r_1 := r.cell (i := 1) rfl
 replace r_f0 := r.free 0
 replace r_f1 := r.free 1
 replace r_lt := r.lt
 have hW : w.heap.size + 1 ≤ W.heap.size := r_lt
 refine (r3Of_any 1 W (by omega) (by omega)).mono ?_
 rintro e w1 ⟨a3, n3, c3, rfl, h3, hE1⟩
 replace r := r.ext hE1; replace r_0 := r.cell (i := 0) rfl; replace r_1 := r.cell (i := 1) rfl; replace r_f0 := r.free 0; replace r_f1 := r.free 1; replace r_lt := r.lt
 rw [show decide ((1 : Int) < 0) = false from rfl]
 have hE0 := Ext.trans hEW hE1
 replace h3 := h3.mono hW (Kept.refl _ _)
 clear hEW
 go_wp2_with fail
 have m := Blk.new w1 25 #[.bool false, .slice a3 n3 c3]
 have hEW2 : Ext w1 (w1.alloc (Obj.cells #[.bool false, .slice a3 n3 c3] 25)) := ((Below.refl _ w1).alloc (by simp) _)
 generalize hgW2 : w1.alloc (Obj.cells #[.bool false, .slice a3 n3 c3] 25) = W2 at *
 clear hgW2
 replace m_0 := m.cell (i := 0) rfl
 replace m_1 := m.cell (i := 1) rfl
 replace m_f0 := m.free 0
 replace m_f1 := m.free 1
 replace m_lt := m.lt
 replace r := r.ext hEW2; replace r_0 := r.cell (i := 0) rfl; replace r_1 := r.cell (i := 1) rfl; replace r_f0 := r.free 0; replace r_f1 := r.free 1; replace r_lt := r.lt
 replace h3 := h3.ext (Nat.le_refl _) hEW2
 replace hE0 := Ext.trans hE0 hEW2
 have hw1 : w.heap.size + 1 ≤ w1.heap.size := Nat.le_trans hW hE1.size
 have HM0 : Hid (∃ a3 n3 c3, Blk W2 w1.heap.size 25 #[.bool false, .slice a3 n3 c3] ∧ NatS (w.heap.size + 1) W2 a3 n3 c3 (limbs (comDen (qs.take 0)))) := Lib.hid ⟨a3, n3, c3, m, h3⟩
 have HR0 := Lib.hid r
 have HE0 := Lib.hid hE0
 clear h3 hE0 hE1 hEW2 m m_0 m_1 m_f0 m_f1 m_lt r r_0 r_1 r_f0 r_f1 r_lt
 go_loopg [13] n (fun q vi wr => ∃ (i : Nat), i ≤ n ∧ q = n - i ∧ vi = .int .i64 (i : Int) ∧ Hid (∃ a3 n3 c3, Blk wr w1.heap.size 25 #[.bool false, .slice a3 n3 c3] ∧ NatS (w.heap.size + 1) wr a3 n3 c3 (limbs (comDen (qs.take i)))) ∧ Hid (Blk wr w.heap.size 25 #[.bool false, .slice none 0 0]) ∧ Hid (Ext w wr))
 case atStart => exact ⟨0, Nat.zero_le _, rfl, rfl, HM0, HR0, HE0⟩
 case round =>
  clear HM0 HR0 HE0
  obtain ⟨i, hi, hq, rfl, HM, HR, HE⟩ := hrel
  by_cases hin : i < n
  ·obtain ⟨b5, o5, s5, a5, n5, c5, s6, a7, n7, c7, x, rfl, hb5, hzi, hc5, hc6, hc7, hc8, h5⟩ := HS.out.getRat hin
   have hc5 := (HE.out.cell (p := ⟨b5, o5 + i * 4, none⟩) hb5).trans hc5
   have hc6 := (HE.out.cell (p := ⟨b5, o5 + i * 4 + 1, none⟩) hb5).trans hc6
   have hc7 := (HE.out.cell (p := ⟨b5, o5 + i * 4 + 2, none⟩) hb5).trans hc7
   have hc8 := (HE.out.cell (p := ⟨b5, o5 + i * 4 + 3, none⟩) hb5).trans hc8
   replace h5 := h5.ext HE.out
   obtain ⟨hil, hzi'⟩ := List.getElem?_eq_some_iff.1 hzi
   have hts : qs.take (i + 1) = qs.take i ++ [x] := by rw [List.take_succ_eq_append_getElem hil, hzi']
   have HX : Hid (comDen (qs.take (i + 1)) = Nat.lcm (comDen (qs.take i)) x.den) := Lib.hid (by rw [hts, comDen_snoc])
   have hnm : nl (comDen (qs.take i)) ≤ KL := nl_comDen _ (qs.drop i) (by rw [List.take_append_drop]; exact hL)
   have hnx : nl (comDen (qs.take (i + 1))) ≤ KL := nl_comDen _ (qs.drop (i + 1)) (by rw [List.take_append_drop]; exact hL)
   have hmp := comDen_pos (qs.take i)
   have hxp := x.den_pos
   have hxd := h5.den
   obtain ⟨a6, n6, c6, hm6, h6⟩ := HM.out
   rw [HX.out] at hnx
   generalize comDen (qs.take i) = M at *
   have hn6 : n6 ≤ KL := by have := h6.len; rw [length_limbs] at this; omega
   have r := HR.out
   have m := hm6
   clear hzi hzi' hts hm6 HR HM
   have H5 := Lib.hid h5
   clear h5
   skip
   skip
   replace r_0 := r.cell (i := 0) rfl
   replace r_1 := r.cell (i := 1) rfl
   replace r_f0 := r.free 0
   replace r_f1 := r.free 1
   replace r_lt := r.lt
   replace m_0 := m.cell (i := 0) rfl
   replace m_1 := m.cell (i := 1) rfl
   replace m_f0 := m.free 0
   replace m_f1 := m.free 1
   replace m_lt := m.lt
   go_wp2_with fail
   clear hc5 hc6 hc7 hc8
   have y := Blk.new wr 75 #[.bool s5, .slice a5 n5 c5, .bool s6, .slice a7 n7 c7]
   have hEW3 : Ext wr (wr.alloc (Obj.cells #[.bool s5, .slice a5 n5 c5, .bool s6, .slice a7 n7 c7] 75)) := ((Below.refl _ wr).alloc (by simp) _)
   generalize hgW3 : wr.alloc (Obj.cells #[.bool s5, .slice a5 n5 c5, .bool s6, .slice a7 n7 c7] 75) = W3 at *
   clear hgW3
   replace y_0 := y.cell (i := 0) rfl
   replace y_1 := y.cell (i := 1) rfl
   replace y_2 := y.cell (i := 2) rfl
   replace y_3 := y.cell (i := 3) rfl
   replace r := r.ext hEW3; replace r_0 := r.cell (i := 0) rfl; replace r_1 := r.cell (i := 1) rfl; replace r_f0 := r.free 0; replace r_f1 := r.free 1; replace r_lt := r.lt; replace m := m.ext hEW3; replace m_0 := m.cell (i := 0) rfl; replace m_1 := m.cell (i := 1) rfl; replace m_f0 := m.free 0; replace m_f1 := m.free 1; replace m_lt := m.lt
   have hd : Ext W3 W3.drew := (Below.refl _ _).drew
   replace r := r.ext hd; replace r_0 := r.cell (i := 0) rfl; replace r_1 := r.cell (i := 1) rfl; replace r_f0 := r.free 0; replace r_f1 := r.free 1; replace r_lt := r.lt; replace m := m.ext hd; replace m_0 := m.cell (i := 0) rfl; replace m_1 := m.cell (i := 1) rfl; replace m_f0 := m.free 0; replace m_f1 := m.free 1; replace m_lt := m.lt; replace y := y.ext hd; replace y_0 := y.cell (i := 0) rfl; replace y_1 := y.cell (i := 1) rfl; replace y_2 := y.cell (i := 2) rfl; replace y_3 := y.cell (i := 3) rfl
   have h5 := H5.out.ext (Ext.trans hEW3 hd)
   replace h6 := Sl.zero (h6.ext (Nat.le_refl _) (Ext.trans hEW3 hd))
   have hE0 := Ext.trans hEW3 hd
   have HLL : Hid (lcms [(M : Int), (x.den : Int)] = Nat.lcm M x.den) := Lib.hid (lcms_two M x.den)
   have HNZ : Hid (∀ z ∈ [(M : Int), (x.den : Int)], z ≠ 0) := Lib.hid (by simp; omega)
   have hsz := hE0.size
   clear hEW3 hd H5
   have hfl1 := rat_field1
   go_region_with
    (first | (go_at_call 122; refine (r5Norm_s K (by omega) _ _ _ _ _ _ _ _ _ _ h5).mono ?_; rintro e w5 ⟨a9, n9, c9, a8, n8, c8, rfl, h9, h8, hE1⟩; replace r := r.ext hE1; replace r_0 := r.cell (i := 0) rfl; replace r_1 := r.cell (i := 1) rfl; replace r_f0 := r.free 0; replace r_f1 := r.free 1; replace r_lt := r.lt; replace m := m.ext hE1; replace m_0 := m.cell (i := 0) rfl; replace m_1 := m.cell (i := 1) rfl; replace m_f0 := m.free 0; replace m_f1 := m.free 1; replace m_lt := m.lt; replace y := y.ext hE1; replace y_0 := y.cell (i := 0) rfl; replace y_1 := y.cell (i := 1) rfl; replace y_2 := y.cell (i := 2) rfl; replace y_3 := y.cell (i := 3) rfl; replace h6 := h6.ext (Nat.le_refl _) hE1; replace h8 := Sl.zero h8; replace hE0 := Ext.trans hE0 hE1; have hn8 : n8 ≤ K := (by have := h8.len; rw [length_limbs] at this; omega))
           | (go_at_call 132; have hQ := Blk.new w5 25 #[.bool false, .slice a6 n6 c6, .bool false, .slice a8 n8 c8]; have hEQ : Ext w5 (w5.alloc (.cells #[.bool false, .slice a6 n6 c6, .bool false, .slice a8 n8 c8] 25)) := (Below.refl _ _).alloc (Nat.le_refl _) _; refine (r3Lcm_any (K + KL) KL (by omega) (by omega) _ _ _ _ [(M : Int), (x.den : Int)] (intsK2 hQ (Nat.zero_le _) (h6.ext (Nat.le_refl _) hEQ) (h8.ext (Nat.le_refl _) hEQ) (by rw [ival_limbs]; rfl) (by rw [ival_limbs]; rfl) (by omega) (by omega)) HNZ (by rw [HLL.out]; exact hnx) _ HLL).mono ?_; rintro e w6 ⟨a10, n10, c10, rfl, h10, hE6⟩; rw [show decide (((Nat.lcm M x.den : Nat) : Int) < 0) = false from decide_eq_false (by omega)]; rw [Int.natAbs_natCast] at h10; have hm5 := m_lt; replace h10 := h10.mono (B' := w.heap.size + 1) (by simp; omega) (Kept.refl _ _); replace hE6 := Ext.trans hEQ hE6; replace r := r.ext hE6; replace m := m.ext hE6; replace r_0 := r.cell (i := 0) rfl; replace r_1 := r.cell (i := 1) rfl; replace r_f0 := r.free 0; replace r_f1 := r.free 1; replace r_lt := r.lt; replace m_0 := m.cell (i := 0) rfl; replace m_1 := m.cell (i := 1) rfl; replace m_f0 := m.free 0; replace m_f1 := m.free 1; replace m_lt := m.lt; replace hE0 := Ext.trans hE0 hE6))
   all_goals
    have HM8 := Lib.hid ((m.set 0 (.bool false)).set 1 (.slice a10 n10 c10))
    have HR8 := Lib.hid ((r.set_ne 0 (.bool false) (show w.heap.size ≠ w1.heap.size by omega)).set_ne 1 (.slice a10 n10 c10) (show w.heap.size ≠ w1.heap.size by omega))
    have HN8 := Lib.hid (NatS.set (NatS.set h10 m_0 (fun x => by simp) (.bool false)) ((m.set 0 (.bool false)).cell (i := 1) rfl) (fun x => by simp) (.slice a10 n10 c10))
    have HE8 := Lib.hid (Below.setCell (Below.setCell (Ext.trans HE.out hE0) (p := ⟨w1.heap.size, 0, none⟩) (show w.heap.size ≤ w1.heap.size by omega) (.bool false)) (p := ⟨w1.heap.size, 1, none⟩) (show w.heap.size ≤ w1.heap.size by omega) (.slice a10 n10 c10))
    clear h5 h6 h8 h9 h10 hE0 hE1 hE6 hEQ hQ hfl1
    go_wp2_with fail
    go_roundg (n - (i + 1))
    case measure => omega
    case rel => exact ⟨i + 1, by omega, rfl, by go_num, Lib.hid ⟨a10, n10, c10, HM8.out, by rw [HX.out]; exact HN8.out⟩, HR8, HE8⟩
  ·obtain rfl : i = n := by omega
   obtain ⟨a6, n6, c6, hm6, h6⟩ := HM.out
   have hfull : comDen (qs.take i) = D := by rw [List.take_of_length_le (by rw [hlen.out]; exact Nat.le_refl _)]; exact hD.out
   rw [hfull] at h6
   rw [hD.out] at hL
   have hn6 : n6 ≤ KL := by have := h6.len; rw [length_limbs] at this; omega
   have r := HR.out
   have m := hm6
   have H6 := Lib.hid h6
   have HE2 := HE
   have hdv : Hid (∀ x ∈ qs, x.den ∣ D) := Lib.hid (fun x hx => by rw [← hD.out]; exact den_dvd_comDen qs x hx)
   clear h6 hfull hm6 HM HR hD
   skip
   skip
   replace r_0 := r.cell (i := 0) rfl
   replace r_1 := r.cell (i := 1) rfl
   replace r_f0 := r.free 0
   replace r_f1 := r.free 1
   replace r_lt := r.lt
   replace m_0 := m.cell (i := 0) rfl
   replace m_1 := m.cell (i := 1) rfl
   replace m_f0 := m.free 0
   replace m_f1 := m.free 1
   replace m_lt := m.lt
   obtain ⟨wo, rfl⟩ : ∃ wo : World, wo = wr := ⟨_, rfl⟩
   have HRo := Lib.hid r
   have HMo := Lib.hid m
   go_wp2_with fail
   go_loopg [7, 26] i (fun q vo vi wx => ∃ (j : Nat), j ≤ i ∧ q = i - j ∧ vi = .int .i64 (j : Int) ∧ Hid (∃ css, Grp rIntN wo.heap.size 25 wx vo j ((qs.take j).map (comNum D)) css) ∧ Hid (Ext wo wx))
   case atStart => exact ⟨0, Nat.zero_le _, by omega, rfl, Lib.hid ⟨[], Grp.nil _ _ _ _⟩, Lib.hid (Ext.refl _)⟩
   case round =>
    obtain ⟨j, hj, hq2, rfl, HGj, HEj⟩ := hrel
    by_cases hji : j < i
    ·obtain ⟨b5, o5, s5, a5, n5, c5, s6, a7, n7, c7, x, rfl, hb5, hzi, hc5, hc6, hc7, hc8, h5⟩ := HS.out.getRat hji
     have hEw := Ext.trans HE.out HEj.out
     have hc5 := (hEw.cell (p := ⟨b5, o5 + j * 4, none⟩) hb5).trans hc5
     have hc6 := (hEw.cell (p := ⟨b5, o5 + j * 4 + 1, none⟩) hb5).trans hc6
     have hc7 := (hEw.cell (p := ⟨b5, o5 + j * 4 + 2, none⟩) hb5).trans hc7
     have hc8 := (hEw.cell (p := ⟨b5, o5 + j * 4 + 3, none⟩) hb5).trans hc8
     replace h5 := h5.ext hEw
     obtain ⟨hil, hzi'⟩ := List.getElem?_eq_some_iff.1 hzi
     have HTS : Hid ((qs.take (j + 1)).map (comNum D) = (qs.take j).map (comNum D) ++ [comNum D x]) := Lib.hid (by rw [List.take_succ_eq_append_getElem hil, hzi', List.map_append]; rfl)
     obtain ⟨q2, hq2⟩ : ∃ q2 : Rat, ((D : Int) : Rat) = q2 := ⟨_, rfl⟩
     obtain ⟨t, ht⟩ : ∃ t : Rat, ((comNum D x : Int) : Rat) = t := ⟨_, rfl⟩
     have HQ2 := Lib.hid hq2
     have HTN : Hid (t.num = comNum D x) := Lib.hid (by rw [← ht, Rat.num_intCast])
     have HXD : Hid (x * q2 = t) := Lib.hid (by rw [← hq2, ← ht]; exact comNum_eq D x (hdv.out x (List.mem_of_getElem? hzi)))
     have hkl : nl q2.num.natAbs ≤ KL + 1 := by rw [← hq2, Rat.num_intCast, Int.natAbs_natCast]; omega
     have hkl2 : nl q2.den ≤ KL + 1 := by rw [← hq2, Rat.den_intCast]; have : nl 1 = 1 := by decide
                                          omega
     clear hq2 ht
     have r := HRo.out.ext HEj.out
     have m := HMo.out.ext HEj.out
     have H5 := Lib.hid h5
     have hwoj := HEj.out.size
     clear hzi hzi' h5 hEw
     replace r_0 := r.cell (i := 0) rfl
     replace r_1 := r.cell (i := 1) rfl
     replace r_f0 := r.free 0
     replace r_f1 := r.free 1
     replace r_lt := r.lt
     replace m_0 := m.cell (i := 0) rfl
     replace m_1 := m.cell (i := 1) rfl
     replace m_f0 := m.free 0
     replace m_f1 := m.free 1
     replace m_lt := m.lt
     go_wp2_with fail
     clear hc5 hc6 hc7 hc8
     have y := Blk.new wr 75 #[.bool s5, .slice a5 n5 c5, .bool s6, .slice a7 n7 c7]
     have hEW3 : Ext wr (wr.alloc (Obj.cells #[.bool s5, .slice a5 n5 c5, .bool s6, .slice a7 n7 c7] 75)) := ((Below.refl _ wr).alloc (by simp) _)
     generalize hgW3 : wr.alloc (Obj.cells #[.bool s5, .slice a5 n5 c5, .bool s6, .slice a7 n7 c7] 75) = W3 at *
     clear hgW3
     replace y_0 := y.cell (i := 0) rfl
     replace y_1 := y.cell (i := 1) rfl
     replace y_2 := y.cell (i := 2) rfl
     replace y_3 := y.cell (i := 3) rfl
     replace r := r.ext hEW3; replace r_0 := r.cell (i := 0) rfl; replace r_1 := r.cell (i := 1) rfl; replace r_f0 := r.free 0; replace r_f1 := r.free 1; replace r_lt := r.lt; replace m := m.ext hEW3; replace m_0 := m.cell (i := 0) rfl; replace m_1 := m.cell (i := 1) rfl; replace m_f0 := m.free 0; replace m_f1 := m.free 1; replace m_lt := m.lt
     have hd : Ext W3 W3.drew := (Below.refl _ _).drew
     replace r := r.ext hd; replace r_0 := r.cell (i := 0) rfl; replace r_1 := r.cell (i := 1) rfl; replace r_f0 := r.free 0; replace r_f1 := r.free 1; replace r_lt := r.lt; replace m := m.ext hd; replace m_0 := m.cell (i := 0) rfl; replace m_1 := m.cell (i := 1) rfl; replace m_f0 := m.free 0; replace m_f1 := m.free 1; replace m_lt := m.lt; replace y := y.ext hd; replace y_0 := y.cell (i := 0) rfl; replace y_1 := y.cell (i := 1) rfl; replace y_2 := y.cell (i := 2) rfl; replace y_3 := y.cell (i := 3) rfl
     have h5 := H5.out.ext (Ext.trans hEW3 hd)
     have h6 := Sl.zero (H6.out.ext (Nat.le_refl _) (Ext.trans HEj.out (Ext.trans hEW3 hd)))
     have hE0 := Ext.trans hEW3 hd
     have hsz := hE0.size
     have hf0 := rat_field0
     have HDV : Hid (ival false (limbs D) = (D : Int)) := Lib.hid (by rw [ival_limbs]; rfl)
     obtain ⟨css, hGj⟩ := HGj.out
     have hlt := hGj.own.lt
     have hmo := HMo.out.lt
     have hro := HRo.out.lt
     obtain ⟨i0, hi0, hz0, hz1, hz2⟩ := info_parts info_int
     have hE9 : ∀ w6 : World, Ext wr w6 → Ext wr (w6.alloc (Obj.cells #[.bool (decide (t.num < 0)), .slice none 0 0] 25)) := fun w6 h => Ext.trans h ((Below.refl _ _).alloc (Nat.le_refl _) _)
     clear hE9
     clear hEW3 hd H5
     go_region_held3 (fun w' => w'.cell? ⟨w1.heap.size, 0, none⟩ = some (.bool false) ∧ w'.cell? ⟨w1.heap.size, 1, none⟩ = some (.slice a6 n6 c6) ∧ w'.cell? ⟨wr.heap.size, 0, none⟩ = some (.bool s5) ∧ w'.cell? ⟨wr.heap.size, 1, none⟩ = some (.slice a5 n5 c5) ∧ w'.cell? ⟨wr.heap.size, 2, none⟩ = some (.bool s6) ∧ w'.cell? ⟨wr.heap.size, 3, none⟩ = some (.slice a7 n7 c7)) (first | exact ⟨m_0, m_1, y_0, y_1, y_2, y_3⟩ | go_keep)
      (first | (go_at_call 133; refine (r5Int_q false 0 _ _ _ _ _ (D : Int) q2 h6 (by omega) HDV HQ2).mono ?_; rintro e w5 ⟨a9, n9, c9, a8, n8, c8, rfl, h9, h8, hE1⟩; replace r := r.ext hE1; replace r_0 := r.cell (i := 0) rfl; replace r_1 := r.cell (i := 1) rfl; replace r_f0 := r.free 0; replace r_f1 := r.free 1; replace r_lt := r.lt; replace m := m.ext hE1; replace m_0 := m.cell (i := 0) rfl; replace m_1 := m.cell (i := 1) rfl; replace m_f0 := m.free 0; replace m_f1 := m.free 1; replace m_lt := m.lt; replace y := y.ext hE1; replace y_0 := y.cell (i := 0) rfl; replace y_1 := y.cell (i := 1) rfl; replace y_2 := y.cell (i := 2) rfl; replace y_3 := y.cell (i := 3) rfl; replace h5 := h5.ext hE1; replace hE0 := Ext.trans hE0 hE1)
             | (go_at_call 96; refine (r5Mul_s K (KL + 1) (by omega) _ _ _ _ _ _ _ _ _ _ _ _ _ _ _ _ _ _ _ h5 (RatS.of h9 h8 hkl hkl2) t HXD).mono ?_; rintro e w6 ⟨a10, n10, c10, a11, n11, c11, rfl, h10, h11, hE1⟩; have h10 := h10.mono (B' := wr.heap.size) hE0.size (Kept.refl _ _); replace r := r.ext hE1; replace r_0 := r.cell (i := 0) rfl; replace r_1 := r.cell (i := 1) rfl; replace r_f0 := r.free 0; replace r_f1 := r.free 1; replace r_lt := r.lt; replace m := m.ext hE1; replace m_0 := m.cell (i := 0) rfl; replace m_1 := m.cell (i := 1) rfl; replace m_f0 := m.free 0; replace m_f1 := m.free 1; replace m_lt := m.lt; replace y := y.ext hE1; replace y_0 := y.cell (i := 0) rfl; replace y_1 := y.cell (i := 1) rfl; replace y_2 := y.cell (i := 2) rfl; replace y_3 := y.cell (i := 3) rfl; replace hE0 := Ext.trans hE0 hE1)
             | (have hEA : Ext w6 (w6.alloc (Obj.cells #[.bool (decide (t.num < 0)), .slice a10 n10 c10] 25)) := (Below.refl _ _).alloc (Nat.le_refl _) _; have hEB := Ext.trans hE0 hEA; have hG9 := hGj.keep hEB.size (fun b _ h2 => hEB.block b h2); have hbl := Blk.new w6 25 #[.bool (decide (t.num < 0)), .slice a10 n10 c10]; have hnews : ∀ ad, some (⟨w6.heap.size, 0, none⟩ : Addr) = some ad → ∀ (j' : Nat) (u : Value), [Value.bool (decide (t.num < 0)), .slice a10 n10 c10][j']? = some u → (w6.alloc (Obj.cells #[.bool (decide (t.num < 0)), .slice a10 n10 c10] 25)).cell? (ad.add j') = some u := (by intro ad e j' u hu; cases e; match j', hu with | 0, hu => (cases hu; exact hbl.cell (i := 0) rfl) | 1, hu => (cases hu; exact hbl.cell (i := 1) rfl) | k + 2, hu => simp at hu); refine step_append_src rfl (.tmp 30) (.tmp 36) 30 rfl wo.heap.size 25 i0 _ 2 32 under_ints hi0 hz0 hz1 hz2 rfl (by decide) _ j _ rfl hG9.own (some ⟨w6.heap.size, 0, none⟩) 1 1 [.bool (decide (t.num < 0)), .slice a10 n10 c10] rfl (by simp) rfl hnews (by simp [Value.oneCell']) (by unfold maxLen; omega) (by omega) (by have := hEB.size; omega) ?_; intro v' w7 hown' hgrow hat; replace m := Blk.grown (m.ext hEA) hgrow (fun e => by have := (hlt _ e.symm).1; omega); replace r := Blk.grown (r.ext hEA) hgrow (fun e => by have := (hlt _ e.symm).1; omega); replace y := Blk.grown (y.ext hEA) hgrow (fun e => by have := (hlt _ e.symm).2; omega); replace r_0 := r.cell (i := 0) rfl; replace r_1 := r.cell (i := 1) rfl; replace r_f0 := r.free 0; replace r_f1 := r.free 1; replace r_lt := r.lt; replace m_0 := m.cell (i := 0) rfl; replace m_1 := m.cell (i := 1) rfl; replace m_f0 := m.free 0; replace m_f1 := m.free 1; replace m_lt := m.lt; replace y_0 := y.cell (i := 0) rfl; replace y_1 := y.cell (i := 1) rfl; replace y_2 := y.cell (i := 2) rfl; replace y_3 := y.cell (i := 3) rfl))
     all_goals
      have HG9 := Lib.hid hG9
      have HN9 : Hid (rIntN.ok wr.heap.size (w6.alloc (Obj.cells #[.bool (decide (t.num < 0)), .slice a10 n10 c10] 25)) [.bool (decide (t.num < 0)), .slice a10 n10 c10] t.num) := Lib.hid ⟨a10, n10, c10, rfl, h10.ext (Nat.le_refl _) hEA⟩
      have HE9 := Lib.hid (Ext.trans HEj.out hEB)
      have HOW := Lib.hid hown'
      have HGR := Lib.hid hgrow
      have HAT := Lib.hid hat
      clear hG9 h5 h6 h9 h8 h10 h11 hEA hEB hE0 hE1 hown' hgrow hat hnews hbl hGj hf0
      go_wp2_with fail
      go_roundg (i - (j + 1))
      case measure => omega
      case rel =>
       refine ⟨j + 1, by omega, rfl, by go_num, Lib.hid ⟨css ++ [[.bool (decide (t.num < 0)), .slice a10 n10 c10]], ?_⟩, Lib.hid (HE9.out.grown HGR.out HE9.out.size (fun k e => (hlt k e).1))⟩
       rw [HTS.out, ← HTN.out]
       exact HG9.out.add HOW.out HGR.out HAT.out (x := t.num) HN9.out hwoj (fun k e => (hlt k e).2)
    ·obtain rfl : j = i := by omega
     obtain ⟨css, hGj⟩ := HGj.out
     rw [List.take_of_length_le (by rw [hlen.out]; exact Nat.le_refl _)] at hGj
     obtain ⟨aa, cc, rfl, hsl⟩ := hGj.sl
     have hform := hGj.form
     have r := HRo.out.ext HEj.out
     have m := HMo.out.ext HEj.out
     have hwo : w.heap.size < wo.heap.size := HRo.out.lt
     have H6j := (H6.out.ext (Nat.le_refl _) HEj.out).mono (Nat.le_refl _) (Kept.trans (kept_set _ 0 (.bool false) (Nat.lt_succ_self w.heap.size)) (kept_set _ 1 (.slice a6 n6 c6) (Nat.lt_succ_self w.heap.size)))
     have HSj := hsl.mono (Nat.le_refl _) (Kept.trans (kept_set _ 0 (.bool false) hwo) (kept_set _ 1 (.slice a6 n6 c6) hwo))
     have HEz := Below.setCell (Below.setCell (Ext.trans HE.out HEj.out) (p := ⟨w.heap.size, 0, none⟩) (Nat.le_refl _) (.bool false)) (p := ⟨w.heap.size, 1, none⟩) (Nat.le_refl _) (.slice a6 n6 c6)
     have HF : Hid (RCommon w D (qs.map (comNum D)) (.returned (.tuple #[.agg #[.bool false, .slice a6 n6 c6], .slice aa j cc])) ((wr.setCell ⟨w.heap.size, 0, none⟩ (.bool false)).setCell ⟨w.heap.size, 1, none⟩ (.slice a6 n6 c6))) :=
      Lib.hid ⟨a6, n6, c6, aa, j, cc, rfl, H6j.mono (by omega) (Kept.refl _ _), HSj.mono (by omega) (Kept.refl _ _), HEz, hform⟩
     clear H6j HSj HEz hsl hGj hform
     replace r_0 := r.cell (i := 0) rfl
     replace r_1 := r.cell (i := 1) rfl
     replace r_f0 := r.free 0
     replace r_f1 := r.free 1
     replace r_lt := r.lt
     replace m_0 := m.cell (i := 0) rfl
     replace m_1 := m.cell (i := 1) rfl
     replace m_f0 := m.free 0
     replace m_f1 := m.free 1
     replace m_lt := m.lt
     have r2 := (r.set 0 (.bool false)).set 1 (.slice a6 n6 c6)
     have hr0 := r2.cell (i := 0) rfl
     have hr1 := r2.cell (i := 1) rfl
     go_wp2_with fail
     exact bodyPost_ret (v := .tuple #[.agg #[.bool false, .slice a6 n6 c6], .slice aa j cc]) (by simp [results, Tryz.results104, go_sem, hr0, hr1]) rfl HF.out
end Go.Proofs.YtbhenelehhiakaaGreat
