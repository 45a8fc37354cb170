/-
  qmat: rows of fractions: each, even.
-/
import Derived.Test.YtbhenelehhiakaaFrom30
import Derived.Test.YtbhenelehhiakaaFrom31
set_option linter.unusedVariables false
set_option linter.unusedSimpArgs false
namespace Go.Proofs.Ytbhenelehhiakaa
open Go.RowKit Go.Shelf
attribute [local go_sem] Oper.semAt_some

/-- a fraction that lies in the world w -/
structure FrAt (K : Nat) (w : World) where
  b : Bool
  a : Option Addr
  n : Nat
  c : Nat
  b2 : Bool
  a2 : Option Addr
  n2 : Nat
  c2 : Nat
  q : Int × Int
  ok : (rFr K).ok 0 w [.bool b, .slice a n c, .bool b2, .slice a2 n2 c2] q
def FrAt.v {K : Nat} {w : World} (x : FrAt K w) : Value := .agg #[.bool x.b, .slice x.a x.n x.c, .bool x.b2, .slice x.a2 x.n2 x.c2]
def FrAt.cells {K : Nat} {w : World} (x : FrAt K w) : List Value := [.bool x.b, .slice x.a x.n x.c, .bool x.b2, .slice x.a2 x.n2 x.c2]

/-- a row of fractions -/
structure FRowAt (K : Nat) (w : World) (a : Option Addr) (n c : Nat) (xs : List (FrAt K w)) : Prop where
  len : xs.length = n
  most : n ≤ 1099511627776
  cells : 0 < n → ∃ b o, a = some ⟨b, o, none⟩ ∧ b < w.heap.size ∧ ∀ k (hk : k < xs.length), w.cell? ⟨b, o + k * 4, none⟩ = some (.bool xs[k].b) ∧ w.cell? ⟨b, o + k * 4 + 1, none⟩ = some (.slice xs[k].a xs[k].n xs[k].c) ∧ w.cell? ⟨b, o + k * 4 + 2, none⟩ = some (.bool xs[k].b2) ∧ w.cell? ⟨b, o + k * 4 + 3, none⟩ = some (.slice xs[k].a2 xs[k].n2 xs[k].c2)

/-- rows of fractions -/
structure FGridAt (K : Nat) (w : World) (a : Option Addr) (n c : Nat) (xss : List (List (FrAt K w))) : Prop where
  len : xss.length = n
  most : n ≤ 1099511627776
  cells : 0 < n → ∃ b o, a = some ⟨b, o, none⟩ ∧ b < w.heap.size ∧ ∀ i (hi : i < xss.length), ∃ a1 n1 c1, w.cell? ⟨b, o + i, none⟩ = some (.slice a1 n1 c1) ∧ FRowAt K w a1 n1 c1 xss[i]
def qssOf {K : Nat} {w : World} (xss : List (List (FrAt K w))) : List (List (Int × Int)) := xss.map fun xs => xs.map FrAt.q

set_option maxRecDepth 100000 in
set_option maxHeartbeats 2000000 in
theorem each1F_in (K : Nat) (w0 : World) (n : Nat) (hn : 1 ≤ n) (l Bs : Nat) (a : Option Addr) (m c : Nat) (xss : List (List (FrAt K w0))) (hG : FGridAt K w0 a m c xss) (J Jx : List (FrAt K w0) → World → Prop)
    (hY : ∀ pre x W, J pre W → pre.length < xss.flatten.length → YieldAt Fence.wide (n - 1) Try.prog l #[x.v] W fun e W' =>
      (e = .returned (.bool true) ∧ J (pre ++ [x]) W' ∧ Below w0.heap.size W W') ∨ (e = .returned (.bool false) ∧ Jx (pre ++ [x]) W'))
    (W : World) (hW : Below w0.heap.size w0 W) (hBs : W.cell? ⟨Bs, 0, none⟩ = some (.slice a m c)) (h0 : J [] W) (hJ : AbidesFrom W.heap.size J) :
    CallsIn Fence.wide n Try.prog 94 #[.func (.yield l) #[] #[], .pointer (some ⟨Bs, 0, none⟩)] W fun e W' => (∃ v, e = .returned v) ∧
      ((∃ ys, ys = xss.flatten ∧ J ys W') ∨ (∃ pre, pre <+: xss.flatten ∧ Jx pre W')) := by
  have HG := Lib.hid hG
  have hm := hG.most
  clear hG
  refine callsIn_of_wp Try.func94 rfl trivial ?_ rfl
  simp only [Try.ntmps94, List.size_toArray, List.length_cons, List.length_nil, Nat.reduceAdd, Nat.reduceSub, Array.replicate_succ, Array.replicate_zero, List.push_toArray, List.append_toArray, List.nil_append, List.cons_append]
  gi_wp2
  gi_loopg [9] m (fun k vi wr => ∃ i : Nat, i ≤ m ∧ k = m - i ∧ vi = .int .i64 (i : Int) ∧ Hid (J (xss.take i).flatten wr ∧ Below w0.heap.size w0 wr ))
  case atStart => exact ⟨0, Nat.zero_le _, rfl, rfl, Lib.hid ⟨h0, hW⟩⟩
  case round =>
    obtain ⟨i, hi, hk, rfl, hI⟩ := hrel
    by_cases him : i < m
    · obtain ⟨b, o, rfl, hb, hcs⟩ := HG.out.cells (by omega)
      have hil : i < xss.length := by rw [HG.out.len]; exact him
      obtain ⟨a1, n1, c1, hc1, hrow⟩ := hcs i hil
      have hc2 := (hI.out.2.cell (p := ⟨b, o + i, none⟩) hb).trans hc1
      have HR := Lib.hid hrow
      have hn1 := hrow.most
      clear hc1 hcs hrow
      have hrl := HR.out.len
      have HX := Lib.hid (flat_take xss i hil)
      have HL : Hid ((xss.take i).flatten.length + xss[i].length ≤ xss.flatten.length) := Lib.hid (by
        have := congrArg List.length HX.out
        rw [List.length_append] at this
        rw [← this]
        conv => rhs; rw [← List.take_append_drop (i + 1) xss]
        rw [List.flatten_append, List.length_append]; omega)
      have HP : Hid ((xss.take i).flatten ++ xss[i] <+: xss.flatten) := Lib.hid (by
        rw [← HX.out]
        conv => rhs; rw [← List.take_append_drop (i + 1) xss]
        rw [List.flatten_append]; exact List.prefix_append _ _)
      generalize xss[i]'hil = xs at *
      generalize (xss.take i).flatten = pre at *
      have hE := hI.out.2
      have hJ0 := hI.out.1
      gi_wp2
      gi_loopg [15] n1 (fun k vi w2 => ∃ j : Nat, j ≤ n1 ∧ k = n1 - j ∧ vi = .int .i64 (j : Int) ∧ Hid (J (pre ++ xs.take j) w2 ∧ Below w0.heap.size w0 w2))
      case atStart => exact ⟨0, Nat.zero_le _, rfl, rfl, Lib.hid ⟨by simpa using hJ0, hE⟩⟩
      case round =>
        obtain ⟨j, hj, hk2, rfl, hI2⟩ := hrel
        by_cases hjn : j < n1
        · obtain ⟨b2, o2, rfl, hb2, hcs⟩ := HR.out.cells (by omega)
          have hjl : j < xs.length := by rw [hrl]; exact hjn
          obtain ⟨hd1, hd2, hd3, hd4⟩ := hcs j hjl
          have hd1 := (hI2.out.2.cell (p := ⟨b2, o2 + j * 4, none⟩) hb2).trans hd1
          have hd2 := (hI2.out.2.cell (p := ⟨b2, o2 + j * 4 + 1, none⟩) hb2).trans hd2
          have HT : Hid (pre ++ xs.take (j + 1) = pre ++ xs.take j ++ [xs[j]]) := Lib.hid (by rw [List.take_succ_eq_append_getElem hjl, List.append_assoc])
          have HPJ : Hid (pre ++ xs.take (j + 1) <+: xss.flatten) := Lib.hid (List.IsPrefix.trans (by rw [List.prefix_append_right_inj]; exact List.take_prefix _ _) HP.out)
          have hlen : (pre ++ xs.take j).length < xss.flatten.length := by
            have := HL.out
            rw [List.length_append, List.length_take]; omega
          have hd3 := (hI2.out.2.cell (p := ⟨b2, o2 + j * 4 + 2, none⟩) hb2).trans hd3
          have hd4 := (hI2.out.2.cell (p := ⟨b2, o2 + j * 4 + 3, none⟩) hb2).trans hd4
          clear hcs
          generalize xs[j] = x at *
          obtain ⟨fn, tmps, assign, body, hy, hR⟩ := hY (pre ++ xs.take j) x _ (hJ _ _ _ none hI2.out.1 (World.grownBy_alloc wr (Obj.cells #[.bool x.b, .slice x.a x.n x.c, .bool x.b2, .slice x.a2 x.n2 x.c2] 62) none) (fun r e => by cases e)) hlen
          dsimp only [FrAt.v] at hy
          have hE3 := hI2.out.2
          gi_wp2
          refine hR.mono ?_
          rintro e W3 (⟨rfl, hJ3, hk3⟩ | ⟨rfl, hJx3⟩)
          · gi_wp2
            gi_roundg (n1 - (j + 1))
            case measure => omega
            case rel => exact ⟨j + 1, by omega, rfl, by go_num, Lib.hid ⟨by rw [HT.out]; exact hJ3, Below.trans hE3 (Below.trans ((Below.refl _ _).alloc hE3.size _) hk3)⟩⟩
          · gi_wp2
            refine bodyPost_ret (results_none rfl _ _ _) rfl ?_
            exact ⟨⟨_, rfl⟩, .inr ⟨_, HPJ.out, by rw [HT.out]; exact hJx3⟩⟩
        · obtain rfl : j = n1 := by omega
          have hJ4 := hI2.out.1
          have hE4 := hI2.out.2
          rw [List.take_of_length_le (by omega)] at hJ4
          gi_wp2
          gi_roundg (m - (i + 1))
          case measure => omega
          case rel => exact ⟨i + 1, by omega, rfl, by go_num, Lib.hid ⟨by rw [HX.out]; exact hJ4, hE4⟩⟩
    · obtain rfl : i = m := by omega
      have hJ5 := hI.out.1
      rw [List.take_of_length_le (by rw [HG.out.len]; omega)] at hJ5
      gi_wp2
      go_end0
      exact ⟨⟨_, rfl⟩, .inl ⟨_, rfl, hJ5⟩⟩

theorem eachF_stops (K : Nat) (w0 w : World) (n : Nat) (hn : 1 ≤ n) (Bs : Nat) (a : Option Addr) (m c : Nat) (xss : List (List (FrAt K w0))) (hG : FGridAt K w0 a m c xss) (hw : Below w0.heap.size w0 w) (hBs : Bs < w.heap.size) (hc : w.cell? ⟨Bs, 0, none⟩ = some (.slice a m c)) :
    SeqStopsK Fence.wide n Try.prog 94 #[.pointer (some ⟨Bs, 0, none⟩)] (fun x : FrAt K w0 => #[x.v]) (Below w0.heap.size) (fun ys => ys = xss.flatten) (fun pre => pre <+: xss.flatten) xss.flatten.length w := fun l J Jx W hW hJ _ hY h0 =>
  each1F_in K w0 n hn l Bs a m c xss hG J Jx hY W (hw.trans (hW.mono hw.size)) ((hW.cell (p := ⟨Bs, 0, none⟩) hBs).trans hc) h0 hJ

set_option maxHeartbeats 1000000 in
theorem gridEachF_any (a : Option Addr) (m c : Nat) (w : World) :
    Calls Try.prog 63 #[.slice a m c] w fun e w' => e = .returned (.func (.func 94) #[] #[.pointer (some ⟨w.heap.size, 0, none⟩)]) ∧ w' = w.alloc (.cells #[.slice a m c] 100) := by
  go_enter Try.func63, Try.ntmps63
  go_wp2_with fail
  go_ret
  exact ⟨rfl, rfl⟩
/-- rows of integers that read so are rows that lie in this world -/
theorem fgrid_of {K B : Nat} {w : World} {a : Option Addr} {n c : Nat} {zss : List (List (Int × Int))} (h : Sl (rFr K).slice B w a n c zss) (hn : n ≤ 1099511627776) (hr : ∀ zs ∈ zss, zs.length ≤ 1099511627776) : ∃ xss : List (List (FrAt K w)), FGridAt K w a n c xss ∧ qssOf xss = zss := by
  have row : ∀ (a1 : Option Addr) (n1 c1 : Nat) (zs : List (Int × Int)), Sl (rFr K) B w a1 n1 c1 zs → n1 ≤ 1099511627776 → ∃ xs : List (FrAt K w), FRowAt K w a1 n1 c1 xs ∧ xs.map FrAt.q = zs := fun a1 n1 c1 zs hz h1 => by
    obtain ⟨xs, hl, hp⟩ := exists_list (α := FrAt K w) (n := n1) (fun k x => ∃ b o, a1 = some ⟨b, o, none⟩ ∧ b < w.heap.size ∧ w.cell? ⟨b, o + k * 4, none⟩ = some (.bool x.b) ∧ w.cell? ⟨b, o + k * 4 + 1, none⟩ = some (.slice x.a x.n x.c) ∧ w.cell? ⟨b, o + k * 4 + 2, none⟩ = some (.bool x.b2) ∧ w.cell? ⟨b, o + k * 4 + 3, none⟩ = some (.slice x.a2 x.n2 x.c2) ∧ zs[k]? = some x.q) (fun k hk => by
      have hkl : k < zs.length := by rw [hz.len]; exact hk
      obtain ⟨b, o, cs, ha, ⟨s, a1, n1, c1, s2, a2, n2, c2, rfl, hok⟩, hc⟩ := hz.at_ k hkl
      exact ⟨⟨s, a1, n1, c1, s2, a2, n2, c2, zs[k], (rFr K).mono (show (rFr K).ok B w _ _ from ⟨s, a1, n1, c1, s2, a2, n2, c2, rfl, hok⟩) (Nat.zero_le _) (Kept.refl _ _)⟩, b, o, ha, cel_lt (hc 0 (by simp)), (hc 0 (by simp)).cell, (hc 1 (by simp)).cell, (hc 2 (by simp)).cell, (hc 3 (by simp)).cell, List.getElem?_eq_getElem hkl⟩)
    refine ⟨xs, ⟨hl, h1, fun h0 => ?_⟩, ?_⟩
    · obtain ⟨b, o, ha, hb, _⟩ := hp 0 (by omega)
      refine ⟨b, o, ha, hb, fun k hk => ?_⟩
      obtain ⟨b', o', ha', _, h6, h7, h8, h9, _⟩ := hp k hk
      rw [ha] at ha'; cases ha'
      exact ⟨h6, h7, h8, h9⟩
    · refine List.ext_getElem (by rw [List.length_map, hl, hz.len]) fun k h6 h7 => ?_
      obtain ⟨_, _, _, _, _, _, _, _, h8⟩ := hp k (by simpa using h6)
      rw [List.getElem?_eq_getElem h7] at h8
      rw [List.getElem_map]
      exact (Option.some.inj h8).symm
  obtain ⟨xss, hl, hp⟩ := exists_list (α := List (FrAt K w)) (n := n) (fun i xs => ∃ b o a1 n1 c1, a = some ⟨b, o, none⟩ ∧ b < w.heap.size ∧ w.cell? ⟨b, o + i, none⟩ = some (.slice a1 n1 c1) ∧ FRowAt K w a1 n1 c1 xs ∧ zss[i]? = some (xs.map FrAt.q)) (fun i hi => by
    have hil : i < zss.length := by rw [h.len]; exact hi
    obtain ⟨b, o, cs, ha, ⟨a1, n1, c1, rfl, hz⟩, hc⟩ := h.at_ i hil
    obtain ⟨xs, h3, h4⟩ := row a1 n1 c1 _ hz (by have := hr _ (List.getElem_mem hil); rw [hz.len] at this; exact this)
    exact ⟨xs, b, o, a1, n1, c1, ha, cel_lt (hc 0 (by simp)), by simpa [Rd.slice] using (hc 0 (by simp)).cell, h3, by rw [List.getElem?_eq_getElem hil, h4]⟩)
  refine ⟨xss, ⟨hl, hn, fun h0 => ?_⟩, ?_⟩
  · obtain ⟨b, o, _, _, _, ha, hb, _⟩ := hp 0 (by omega)
    refine ⟨b, o, ha, hb, fun i hi => ?_⟩
    obtain ⟨b', o', a1, n1, c1, ha', _, h6, h7, _⟩ := hp i hi
    rw [ha] at ha'; cases ha'
    exact ⟨a1, n1, c1, h6, h7⟩
  · unfold qssOf
    refine List.ext_getElem (by rw [List.length_map, hl, h.len]) fun i h6 h7 => ?_
    obtain ⟨_, _, _, _, _, _, _, _, _, h8⟩ := hp i (by simpa using h6)
    rw [List.getElem?_eq_getElem h7] at h8
    rw [List.getElem_map]
    exact (Option.some.inj h8).symm

set_option maxHeartbeats 1000000 in
theorem evenF_any {α : Type} (r : Rd α) (B : Nat) (w : World) (a : Option Addr) (n c : Nat) (xss : List (List α)) (h : Sl r.slice B w a n c xss) (s : Bool) (hs : Hid (evenB xss = s)) :
    Calls Try.prog 65 #[.slice a n c] w fun e w' => e = .returned (.bool s) ∧ w = w' := by
  have hmost := h.most
  have hcap := h.cap
  have HS := Lib.hid h
  have hl := Lib.hid h.len
  clear h
  go_enter Try.func65, Try.ntmps65
  go_wp2_with fail
  go_loopg [7] n (fun q vi wr => ∃ i : Nat, i ≤ n ∧ q = n - i ∧ vi = .int .i64 (i : Int) ∧ Hid (∀ j x, j < i → xss[j]? = some x → x.length = colsOf xss) ∧ w = wr)
  case atStart => exact ⟨0, Nat.zero_le _, by omega, rfl, Lib.hid (fun j _ hj => by omega), rfl⟩
  case round =>
    obtain ⟨i, hi, hq, rfl, HI, rfl⟩ := hrel
    by_cases hin : i < n
    · obtain ⟨b, o, a1, n1, c1, x, rfl, hb, hx, hc, hX⟩ := Sl.getRow HS.out hin
      obtain ⟨b', o', a2, n2, c2, y, hba, hb2, hy, hc2, hY⟩ := Sl.getRow HS.out (show 0 < n by omega)
      cases hba
      rw [Nat.add_zero] at hc2
      have HX := Lib.hid hx
      have hy2 : colsOf xss = n2 := by
        rw [← hY.len]
        cases xss with
        | nil => simp at hy
        | cons z zs => simp at hy; subst hy; rfl
      have HC := Lib.hid hy2
      have HN1 := Lib.hid hX.len
      clear hx hy hy2 hX hY
      by_cases h12 : n1 = n2
      · subst h12
        go_wp2_with fail
        go_roundg (n - (i + 1))
        case measure => omega
        case rel => exact ⟨i + 1, by omega, rfl, by go_num, Lib.hid (fun j z hj hz => by
          by_cases hji : j < i
          · exact HI.out j z hji hz
          · obtain rfl : j = i := by omega
            rw [HX.out] at hz
            cases hz
            rw [HN1.out, HC.out]), rfl⟩
      · have hne : ((n1 : Int) != (n2 : Int)) = true := by simp; omega
        have HF : Hid (s = false) := Lib.hid (by
          rw [← hs.out]
          unfold evenB
          rw [List.all_eq_false]
          obtain ⟨h5, h6⟩ := List.getElem?_eq_some_iff.1 HX.out
          refine ⟨x, by rw [← h6]; exact List.getElem_mem _, ?_⟩
          simp
          rw [HN1.out, HC.out]; exact h12)
        clear h12
        go_wp2_with fail
        go_ret
        exact ⟨by rw [HF.out]; rfl, rfl⟩
    · obtain rfl : i = n := by omega
      have HT : Hid (s = true) := Lib.hid (by
        rw [← hs.out]
        unfold evenB
        rw [List.all_eq_true]
        intro x hx
        obtain ⟨j, hj, rfl⟩ := List.getElem_of_mem hx
        exact decide_eq_true (HI.out j _ (by rw [← hl.out]; exact hj) (List.getElem?_eq_getElem hj)))
      go_wp2_with fail
      go_ret
      exact ⟨by rw [HT.out]; rfl, rfl⟩

end Go.Proofs.Ytbhenelehhiakaa
