/-
  A part.
-/
import Derived.RangeFuncNested
import Derived.RangeFuncBound
import Derived.RangeFuncCalls
import Derived.RangeFuncLeaves
import Derived.RangeFuncBox
import Derived.Shelf.Abstract
import Derived.Shelf.RegionOpen
import Derived.OwnWalkIn
import Derived.TacticsInMore
import Derived.LoopNIn
import Derived.LoopIn
import Derived.Sort.LoopGhostIn
import Derived.Sort.CutIn
import Derived.Maps.AppendAt
import Derived.Test.YtbhenelehhiakaaGreatSum17
set_option linter.unusedVariables false
set_option linter.unusedSimpArgs false
namespace Go.Proofs.YtbhenelehhiakaaGreat
open Go.RowKit Go.Shelf
attribute [local go_sem] Oper.semAt_some

/-- an integer that lies in the world w -/
structure IntAt (w : World) where
  b : Bool
  a : Option Addr
  n : Nat
  c : Nat
  l : Nt
  h : NatS 0 w a n c l
  hn : n ≤ 8796093022208
def IntAt.v {w : World} (x : IntAt w) : Value := .agg #[.bool x.b, .slice x.a x.n x.c]
def IntAt.z {w : World} (x : IntAt w) : Int := ival x.b x.l

/-- a row of integers -/
structure RowAt (w : World) (a : Option Addr) (n c : Nat) (xs : List (IntAt w)) : Prop where
  len : xs.length = n
  most : n ≤ 1099511627776
  cells : 0 < n → ∃ b o, a = some ⟨b, o, none⟩ ∧ b < w.heap.size ∧ ∀ k (hk : k < xs.length), w.cell? ⟨b, o + k * 2, none⟩ = some (.bool xs[k].b) ∧ w.cell? ⟨b, o + k * 2 + 1, none⟩ = some (.slice xs[k].a xs[k].n xs[k].c)

/-- rows of integers -/
structure GridAt (w : World) (a : Option Addr) (n c : Nat) (xss : List (List (IntAt w))) : Prop where
  len : xss.length = n
  most : n ≤ 1099511627776
  cells : 0 < n → ∃ b o, a = some ⟨b, o, none⟩ ∧ b < w.heap.size ∧ ∀ i (hi : i < xss.length), ∃ a1 n1 c1, w.cell? ⟨b, o + i, none⟩ = some (.slice a1 n1 c1) ∧ RowAt w a1 n1 c1 xss[i]

theorem flat_take {α : Type} (xss : List (List α)) (i : Nat) (hi : i < xss.length) : (xss.take (i + 1)).flatten = (xss.take i).flatten ++ xss[i] := by
  rw [List.take_succ_eq_append_getElem hi, List.flatten_append]; simp

set_option maxRecDepth 100000 in
set_option maxHeartbeats 2000000 in
theorem each1_in (w0 : World) (n : Nat) (hn : 1 ≤ n) (l Bs : Nat) (a : Option Addr) (m c : Nat) (xss : List (List (IntAt w0))) (hG : GridAt w0 a m c xss) (J Jx : List (IntAt w0) → World → Prop)
    (hY : ∀ pre x W, J pre W → pre.length < xss.flatten.length → YieldAt Fence.wide (n - 1) Tryz.prog l #[x.v] W fun e W' =>
      (e = .returned (.bool true) ∧ J (pre ++ [x]) W' ∧ Below w0.heap.size W W') ∨ (e = .returned (.bool false) ∧ Jx (pre ++ [x]) W'))
    (W : World) (hW : Below w0.heap.size w0 W) (hBs : W.cell? ⟨Bs, 0, none⟩ = some (.slice a m c)) (h0 : J [] W) (hJ : AbidesFrom W.heap.size J) :
    CallsIn Fence.wide n Tryz.prog 102 #[.func (.yield l) #[] #[], .pointer (some ⟨Bs, 0, none⟩)] W fun e W' => (∃ v, e = .returned v) ∧
      ((∃ ys, ys = xss.flatten ∧ J ys W') ∨ (∃ pre, pre <+: xss.flatten ∧ Jx pre W')) := by
  have HG := Lib.hid hG
  have hm := hG.most
  clear hG
  refine callsIn_of_wp Tryz.func102 rfl trivial ?_ rfl
  simp only [Tryz.ntmps102, List.size_toArray, List.length_cons, List.length_nil, Nat.reduceAdd, Nat.reduceSub, Array.replicate_succ, Array.replicate_zero, List.push_toArray, List.append_toArray, List.nil_append, List.cons_append]
  gi_wp2
  gi_loopg [9] m (fun k vi wr => ∃ i : Nat, i ≤ m ∧ k = m - i ∧ vi = .int .i64 (i : Int) ∧ Hid (J (xss.take i).flatten wr ∧ Below w0.heap.size w0 wr ))
  case atStart => exact ⟨0, Nat.zero_le _, rfl, rfl, Lib.hid ⟨h0, hW⟩⟩
  case round =>
    obtain ⟨i, hi, hk, rfl, hI⟩ := hrel
    by_cases him : i < m
    · obtain ⟨b, o, rfl, hb, hcs⟩ := HG.out.cells (by omega)
      have hil : i < xss.length := by rw [HG.out.len]; exact him
      obtain ⟨a1, n1, c1, hc1, hrow⟩ := hcs i hil
      have hc2 := (hI.out.2.cell (p := ⟨b, o + i, none⟩) hb).trans hc1
      have HR := Lib.hid hrow
      have hn1 := hrow.most
      clear hc1 hcs hrow
      have hrl := HR.out.len
      have HX := Lib.hid (flat_take xss i hil)
      have HL : Hid ((xss.take i).flatten.length + xss[i].length ≤ xss.flatten.length) := Lib.hid (by
        have := congrArg List.length HX.out
        rw [List.length_append] at this
        rw [← this]
        conv => rhs; rw [← List.take_append_drop (i + 1) xss]
        rw [List.flatten_append, List.length_append]; omega)
      have HP : Hid ((xss.take i).flatten ++ xss[i] <+: xss.flatten) := Lib.hid (by
        rw [← HX.out]
        conv => rhs; rw [← List.take_append_drop (i + 1) xss]
        rw [List.flatten_append]; exact List.prefix_append _ _)
      generalize xss[i]'hil = xs at *
      generalize (xss.take i).flatten = pre at *
      have hE := hI.out.2
      have hJ0 := hI.out.1
      gi_wp2
      gi_loopg [15] n1 (fun k vi w2 => ∃ j : Nat, j ≤ n1 ∧ k = n1 - j ∧ vi = .int .i64 (j : Int) ∧ Hid (J (pre ++ xs.take j) w2 ∧ Below w0.heap.size w0 w2))
      case atStart => exact ⟨0, Nat.zero_le _, rfl, rfl, Lib.hid ⟨by simpa using hJ0, hE⟩⟩
      case round =>
        obtain ⟨j, hj, hk2, rfl, hI2⟩ := hrel
        by_cases hjn : j < n1
        · obtain ⟨b2, o2, rfl, hb2, hcs⟩ := HR.out.cells (by omega)
          have hjl : j < xs.length := by rw [hrl]; exact hjn
          obtain ⟨hd1, hd2⟩ := hcs j hjl
          have hd1 := (hI2.out.2.cell (p := ⟨b2, o2 + j * 2, none⟩) hb2).trans hd1
          have hd2 := (hI2.out.2.cell (p := ⟨b2, o2 + j * 2 + 1, none⟩) hb2).trans hd2
          have HT : Hid (pre ++ xs.take (j + 1) = pre ++ xs.take j ++ [xs[j]]) := Lib.hid (by rw [List.take_succ_eq_append_getElem hjl, List.append_assoc])
          have HPJ : Hid (pre ++ xs.take (j + 1) <+: xss.flatten) := Lib.hid (List.IsPrefix.trans (by rw [List.prefix_append_right_inj]; exact List.take_prefix _ _) HP.out)
          have hlen : (pre ++ xs.take j).length < xss.flatten.length := by
            have := HL.out
            rw [List.length_append, List.length_take]; omega
          clear hcs
          generalize xs[j] = x at *
          obtain ⟨fn, tmps, assign, body, hy, hR⟩ := hY (pre ++ xs.take j) x _ (hJ _ _ _ none hI2.out.1 (World.grownBy_alloc wr (Obj.cells #[.bool x.b, .slice x.a x.n x.c] 25) none) (fun r e => by cases e)) hlen
          dsimp only [IntAt.v] at hy
          have hE3 := hI2.out.2
          gi_wp2
          refine hR.mono ?_
          rintro e W3 (⟨rfl, hJ3, hk3⟩ | ⟨rfl, hJx3⟩)
          · gi_wp2
            gi_roundg (n1 - (j + 1))
            case measure => omega
            case rel => exact ⟨j + 1, by omega, rfl, by go_num, Lib.hid ⟨by rw [HT.out]; exact hJ3, Below.trans hE3 (Below.trans ((Below.refl _ _).alloc hE3.size _) hk3)⟩⟩
          · gi_wp2
            refine bodyPost_ret (results_none rfl _ _ _) rfl ?_
            exact ⟨⟨_, rfl⟩, .inr ⟨_, HPJ.out, by rw [HT.out]; exact hJx3⟩⟩
        · obtain rfl : j = n1 := by omega
          have hJ4 := hI2.out.1
          have hE4 := hI2.out.2
          rw [List.take_of_length_le (by omega)] at hJ4
          gi_wp2
          gi_roundg (m - (i + 1))
          case measure => omega
          case rel => exact ⟨i + 1, by omega, rfl, by go_num, Lib.hid ⟨by rw [HX.out]; exact hJ4, hE4⟩⟩
    · obtain rfl : i = m := by omega
      have hJ5 := hI.out.1
      rw [List.take_of_length_le (by rw [HG.out.len]; omega)] at hJ5
      gi_wp2
      go_end0
      exact ⟨⟨_, rfl⟩, .inl ⟨_, rfl, hJ5⟩⟩

theorem each_stops (w0 w : World) (n : Nat) (hn : 1 ≤ n) (Bs : Nat) (a : Option Addr) (m c : Nat) (xss : List (List (IntAt w0))) (hG : GridAt w0 a m c xss) (hw : Below w0.heap.size w0 w) (hBs : Bs < w.heap.size) (hc : w.cell? ⟨Bs, 0, none⟩ = some (.slice a m c)) :
    SeqStopsK Fence.wide n Tryz.prog 102 #[.pointer (some ⟨Bs, 0, none⟩)] (fun x : IntAt w0 => #[x.v]) (Below w0.heap.size) (fun ys => ys = xss.flatten) (fun pre => pre <+: xss.flatten) xss.flatten.length w := fun l J Jx W hW hJ _ hY h0 =>
  each1_in w0 n hn l Bs a m c xss hG J Jx hY W (hw.trans (hW.mono hw.size)) ((hW.cell (p := ⟨Bs, 0, none⟩) hBs).trans hc) h0 hJ

set_option maxHeartbeats 1000000 in
theorem gridEach_any (a : Option Addr) (m c : Nat) (w : World) :
    Calls Tryz.prog 58 #[.slice a m c] w fun e w' => e = .returned (.func (.func 102) #[] #[.pointer (some ⟨w.heap.size, 0, none⟩)]) ∧ w' = w.alloc (.cells #[.slice a m c] 91) := by
  go_enter Tryz.func58, Tryz.ntmps58
  go_wp2_with fail
  go_ret
  exact ⟨rfl, rfl⟩
end Go.Proofs.YtbhenelehhiakaaGreat
