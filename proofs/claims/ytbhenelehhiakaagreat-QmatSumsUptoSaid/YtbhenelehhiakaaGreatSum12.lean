/-
  The references' natural numbers, part 3: sums, differences, products by a word, halves, shifts.
-/
import Derived.Maps.AppendAt
import Derived.Test.YtbhenelehhiakaaGreatSum10
import Derived.Test.YtbhenelehhiakaaGreatSum11
set_option linter.unusedVariables false
set_option linter.unusedSimpArgs false
namespace Go.Proofs.YtbhenelehhiakaaGreat
open Go.RowKit

/-- an append onto a row of the call's own; the source may be nil -/
theorem run_append_src {P : Program} (w : World) (base : Nat) (t ty e : TypeId) (i : TypeInfo) (z : Value) (size bytes : Nat) (ht : P.underlying t = some (.slice e)) (hi : P.info? e = some i) (hz : i.zero = some z)
    (hsize : i.size = size) (hby : i.bytes = bytes) (hzs : z.cells.size = size) (hsz : 0 < size) (v : Value) (n : Nat) (xs : List Value) (hown : w.ownsRow base e size v n xs)
    (A : Option Addr) (m c : Nat) (news : List Value) (hA : A = none → m = 0) (hl : news.length = m * size) (hr : ∀ ad, A = some ad → ∀ j u, news[j]? = some u → w.cell? (ad.add j) = some u) (h1 : ∀ u ∈ news, u.oneCell' = true)
    (h63 : n + m ≤ maxLen) (hbytes : (n + m) * bytes ≤ 140737488355328) (hbase : base ≤ w.heap.size) :
    ∃ v' w', (Builtin.append_ #[t, t] ty #[v, .slice A m c]).run P w = .ok v' w' ∧ w'.ownsRow base e size v' (n + m) (xs ++ news) ∧ w.grownBy w' v.ownBlock ∧ (v'.ownBlock = v.ownBlock ∨ v'.ownBlock = some w.heap.size) := by
  cases A with
  | some ad =>
    obtain ⟨v', w', hrun, h2, h3, _, h5⟩ := run_append_own_at (P := P) w base t ty e i z size bytes ht hi hz hsize hby hzs hsz v n xs hown ad m c news hl (hr ad rfl) h1 h63 hbytes hbase
    exact ⟨v', w', hrun, h2, h3, h5⟩
  | none =>
    obtain rfl := hA rfl
    obtain rfl : news = [] := List.eq_nil_of_length_eq_zero (by simpa using hl)
    refine ⟨v, w, ?_, by simpa using hown, World.grownBy.refl w _, .inl rfl⟩
    rcases hown.2 with ⟨rfl, rfl⟩ | ⟨g, cap, cur, rfl, _, _, hnc, _⟩
    · simp [Builtin.append_, run_underlying ht, sizeOf, typeInfo, hi, Builtin.lenOf, Builtin.firstCells]
    · simp [Builtin.append_, run_underlying ht, sizeOf, typeInfo, hi, Builtin.lenOf, Builtin.firstCells, hnc, storeCells]

theorem wp_append_src {P : Program} (w : World) {o : Oper} {a : Act} {K : Act → World → Prop} {Q : Exit → Act → World → Prop} (s x : Operand) (t : TypeId) (ho : o.op = .call { callee := .builtin .append, args := #[s, x], argTypes := #[t, t] })
    (base : Nat) (e : TypeId) (i : TypeInfo) (z : Value) (size bytes : Nat) (ht : P.underlying t = some (.slice e)) (hi : P.info? e = some i) (hz : i.zero = some z)
    (hsize : i.size = size) (hby : i.bytes = bytes) (hzs : z.cells.size = size) (hsz : 0 < size) (v : Value) (n : Nat) (xs : List Value) (hs : a.eval s = v) (hown : w.ownsRow base e size v n xs)
    (A : Option Addr) (m c : Nat) (news : List Value) (hx : a.eval x = .slice A m c) (hA : A = none → m = 0) (hl : news.length = m * size) (hr : ∀ ad, A = some ad → ∀ j u, news[j]? = some u → w.cell? (ad.add j) = some u) (h1 : ∀ u ∈ news, u.oneCell' = true)
    (h63 : n + m ≤ maxLen) (hbytes : (n + m) * bytes ≤ 140737488355328) (hbase : base ≤ w.heap.size)
    (h : ∀ v' w', w'.ownsRow base e size v' (n + m) (xs ++ news) → w.grownBy w' v.ownBlock → (v'.ownBlock = v.ownBlock ∨ v'.ownBlock = some w.heap.size) → K (a.put o.dst v') w') : o.wp P a w K Q := by
  obtain ⟨v', w', hrun, h2, h3, h4⟩ := run_append_src (P := P) w base t o.type e i z size bytes ht hi hz hsize hby hzs hsz v n xs hown A m c news hA hl hr h1 h63 hbytes hbase
  unfold Oper.wp execOp
  simp only [ho, resolve, invoke, builtin, Sem.run_bind, Sem.run_pure, Result.andThen_ok, List.map_toArray, List.map_cons, List.map_nil, hs, hx, hrun]
  exact h v' w' h2 h3 h4

theorem wpList_append_src {P : Program} {w : World} {ops : Array Oper} {rest : List Oper} {o : Oper} {a : Act} {Q : Exit → Act → World → Prop} (hgd : o.guard = none) (s x : Operand) (t : TypeId) (ho : o.op = .call { callee := .builtin .append, args := #[s, x], argTypes := #[t, t] })
    (base : Nat) (e : TypeId) (i : TypeInfo) (z : Value) (size bytes : Nat) (ht : P.underlying t = some (.slice e)) (hi : P.info? e = some i) (hz : i.zero = some z)
    (hsize : i.size = size) (hby : i.bytes = bytes) (hzs : z.cells.size = size) (hsz : 0 < size) (v : Value) (n : Nat) (xs : List Value) (hs : a.eval s = v) (hown : w.ownsRow base e size v n xs)
    (A : Option Addr) (m c : Nat) (news : List Value) (hx : a.eval x = .slice A m c) (hA : A = none → m = 0) (hl : news.length = m * size) (hr : ∀ ad, A = some ad → ∀ j u, news[j]? = some u → w.cell? (ad.add j) = some u) (h1 : ∀ u ∈ news, u.oneCell' = true)
    (h63 : n + m ≤ maxLen) (hbytes : (n + m) * bytes ≤ 140737488355328) (hbase : base ≤ w.heap.size)
    (h : ∀ v' w', w'.ownsRow base e size v' (n + m) (xs ++ news) → w.grownBy w' v.ownBlock → (v'.ownBlock = v.ownBlock ∨ v'.ownBlock = some w.heap.size) → wpList P ops Q rest (a.put o.dst v') w') : wpList P ops Q (o :: rest) a w :=
  wpList_plain hgd fun _ hK => wp_append_src w s x t ho base e i z size bytes ht hi hz hsize hby hzs hsz v n xs hs hown A m c news hx hA hl hr h1 h63 hbytes hbase fun v' w' h2 h3 h4 => hK _ _ (h v' w' h2 h3 h4)

theorem step_append_src {P : Program} {w : World} {ops : Array Oper} {o : Oper} {a : Act} {K : Act → World → Prop} {Q : Exit → Act → World → Prop} {E : Prop} (hgd : o.guard = none) (s x : Operand) (t : TypeId) (ho : o.op = .call { callee := .builtin .append, args := #[s, x], argTypes := #[t, t] })
    (base : Nat) (e : TypeId) (i : TypeInfo) (z : Value) (size bytes : Nat) (ht : P.underlying t = some (.slice e)) (hi : P.info? e = some i) (hz : i.zero = some z)
    (hsize : i.size = size) (hby : i.bytes = bytes) (hzs : z.cells.size = size) (hsz : 0 < size) (v : Value) (n : Nat) (xs : List Value) (hs : a.eval s = v) (hown : w.ownsRow base e size v n xs)
    (A : Option Addr) (m c : Nat) (news : List Value) (hx : a.eval x = .slice A m c) (hA : A = none → m = 0) (hl : news.length = m * size) (hr : ∀ ad, A = some ad → ∀ j u, news[j]? = some u → w.cell? (ad.add j) = some u) (h1 : ∀ u ∈ news, u.oneCell' = true)
    (h63 : n + m ≤ maxLen) (hbytes : (n + m) * bytes ≤ 140737488355328) (hbase : base ≤ w.heap.size)
    (h : ∀ v' w', w'.ownsRow base e size v' (n + m) (xs ++ news) → w.grownBy w' v.ownBlock → (v'.ownBlock = v.ownBlock ∨ v'.ownBlock = some w.heap.size) → K (a.put o.dst v') w') :
    if Region.wanted o (yielded ops a.tmps) = true then Oper.wp P o a w K Q else E := by
  rw [if_pos (by simp [Region.wanted, hgd])]
  exact wp_append_src w s x t ho base e i z size bytes ht hi hz hsize hby hzs hsz v n xs hs hown A m c news hx hA hl hr h1 h63 hbytes hbase h

/-- a list of limbs as a source -/
theorem NatS.src {B : Nat} {w : World} {a : Option Addr} {n c : Nat} {l : Nt} (h : NatS B w a n c l) : (a = none → n = 0) ∧ ∀ ad, a = some ad → ∀ j u, (l.map fun x : Nat => Value.int .u32 (x : Int))[j]? = some u → w.cell? (ad.add j) = some u := by
  refine ⟨fun e => by have := h.nil e; have := h.cap; omega, fun ad e j u hu => ?_⟩
  rw [List.getElem?_map] at hu
  by_cases hj : j < l.length
  · obtain ⟨b, o, e1, _, hc⟩ := h.at' (k := j) (by rw [← h.len]; exact hj)
    rw [e] at e1
    cases e1
    rw [List.getElem?_eq_getElem hj] at hu hc
    cases hu
    by_cases hj0 : j = 0
    · subst hj0; simpa [Addr.add] using hc
    · simpa [Addr.add, hj0] using hc
  · rw [List.getElem?_eq_none (by omega)] at hu; cases hu

theorem stp_sub_le (l l2 : List Nat) (k : Nat) : stp subNxt 0 l l2 k ≤ 1 := by
  cases k with
  | zero => exact Nat.zero_le _
  | succ k => exact subNxt_le _ _ _
theorem sm_bound {x wd s : Nat} (hx : x < 4294967296) (hw : wd < 4294967296) (hs : s < 4294967296) : (x : Int) * (wd : Int) + s < 18446744073709551616 := by
  have h : x * wd ≤ 4294967295 * 4294967295 := Nat.mul_le_mul (by omega) (by omega)
  have : ((x * wd : Nat) : Int) = (x : Int) * wd := Int.natCast_mul _ _
  omega

set_option maxRecDepth 100000 in
set_option maxHeartbeats 1000000 in
theorem r1Sub_any (B : Nat) (w : World) (a a2 : Option Addr) (n c n2 c2 : Nat) (l l2 : Nt) (h : NatS B w a n c l) (h2 : NatS B w a2 n2 c2 l2) (hn : n ≤ 17592186044416) (hnn : n2 ≤ n) (m : Nat) (hle : val l2 ≤ val l) (hm : Hid (val l - val l2 = m)) :
    Calls Tryz.prog 151 #[.slice a n c, .slice a2 n2 c2] w (RNat w m) := by
  have HN := Lib.hid h
  have hs1 := h.small
  have hl1 := Lib.hid h.len
  have HN2 := Lib.hid h2
  have hs2 := h2.small
  have hl2 := Lib.hid h2.len
  have HEND : Hid (val (outs subOut subNxt 0 l l2 n) = m) := Lib.hid (by rw [sub_end hs1 hs2 hle n (by rw [hl1.out]; omega) (by rw [hl2.out]; omega)]; exact hm.out)
  have hmk := fun w => make_words under_nat info_u32 n n (Nat.le_refl _) (by omega) w
  have hmost := h.most
  have hcap := h.cap
  clear h h2 hle hm
  go_enter Tryz.func151, Tryz.ntmps151
  go_wp2_with fail
  go_loopg [6, 14] (n) (fun q cs i wr => ∃ k : Nat, k ≤ n ∧ q = n - k ∧ i = .int .i64 (k : Int) ∧ cs = .int .u64 ((stp subNxt 0 l l2 k : Nat) : Int) ∧ Hid (Blk wr w.heap.size 126 (words (outs (subOut) (subNxt) 0 l l2 k ++ List.replicate (n - k) 0))) ∧ Hid (Ext w wr))
  case atStart => exact ⟨0, Nat.zero_le _, by omega, rfl, rfl, Lib.hid (Blk.new _ _ _), Lib.hid ((Below.refl _ _).alloc (Nat.le_refl _) _)⟩
  case round =>
    obtain ⟨k, hk, hq, rfl, rfl, HB, HE⟩ := hrel
    by_cases hkm : k < n
    · have HFILL := Lib.hid (outs_fill (subOut) (subNxt) 0 l l2 k (n) hkm)
      have K1 := Lib.hid (limb_any B wr a n c l (HN.out.ext (Nat.le_refl _) HE.out) k (by omega))
      have hx := hs1.get k
      have K2 := Lib.hid (limb_any B wr a2 n2 c2 l2 (HN2.out.ext (Nat.le_refl _) HE.out) k (by omega))
      have hy := hs2.get k
      have hst := stp_sub_le l l2 k
      have HST : Hid (stp subNxt 0 l l2 (k + 1) = subNxt (stp subNxt 0 l l2 k) (l[k]?.getD 0) (l2[k]?.getD 0)) := Lib.hid rfl
      have hL : (words (outs (subOut) (subNxt) 0 l l2 k ++ List.replicate (n - k) 0)).size = n := by rw [words_size, List.length_append, length_outs, List.length_replicate]; omega
      have HKC : Hid ((outs (subOut) (subNxt) 0 l l2 k ++ List.replicate (n - k) 0) = (outs (subOut) (subNxt) 0 l l2 k ++ List.replicate (n - k) 0)) := Lib.hid rfl
      generalize hLL : outs (subOut) (subNxt) 0 l l2 k ++ List.replicate (n - k) 0 = L at *
      clear hLL HKC
      generalize l[k]?.getD 0 = x at *
      generalize l2[k]?.getD 0 = y at *
      generalize stp subNxt 0 l l2 k = s at *
      have hco := HB.out.word (i := k) (by rw [words_size] at hL; omega)
      have hfr := HB.out.free k
      have hwl := HB.out.lt
      have hkc : (k : Int) < (n : Int) := by omega
      clear hL
      go_wp2_with (go_at_call 162; first | ((with_reducible refine K1.out.mono ?_); rintro e w' ⟨rfl, rfl⟩) | ((with_reducible refine K2.out.mono ?_); rintro e w' ⟨rfl, rfl⟩))
      go_roundg (n - (k + 1))
      case measure => omega
      case rel =>
        refine ⟨k + 1, by omega, rfl, by go_num, (by rw [HST.out]; exact congrArg (Value.int .u64) (by unfold subNxt; split <;> omega)), Lib.hid ?_, Lib.hid (HE.out.setCell (Nat.le_refl _) _)⟩
        have := HB.out.set k (.int .u32 ((subOut s x y : Nat) : Int))
        rw [words_set, HFILL.out] at this
        have key : ∀ v : Int, v = ((subOut s x y : Nat) : Int) → Blk (wr.setCell ⟨w.heap.size, k, none⟩ (.int .u32 v)) w.heap.size 126 (words (outs (subOut) (subNxt) 0 l l2 (k + 1) ++ List.replicate (n - (k + 1)) 0)) := fun v hv => by subst hv; exact this
        exact key _ (by unfold subOut; omega)
    · obtain rfl : n = k := by omega
      have hNR : NatS w.heap.size wr (some ⟨w.heap.size, 0, none⟩) (n) (n) (outs (subOut) (subNxt) 0 l l2 (n)) := by
        have := HB.out.nat (B := w.heap.size) (Nat.le_refl _) ((small_outs (subOut) (subNxt) 0 l l2 (subOut_lt) _).append (small_replicate _)) (n) (by rw [List.length_append, length_outs]; omega) (Nat.le_refl _) (by omega)
        rwa [Nat.sub_self, List.replicate_zero, List.append_nil, List.take_of_length_le (by rw [length_outs]; omega)] at this
      clear HB
      go_wp2_with fail
      refine (r1Norm_any w.heap.size wr _ _ _ _ hNR (by omega)).mono ?_
      rintro e w3 ⟨a3, n3, c3, rfl, h3, hE3⟩
      rw [HEND.out] at h3
      have HF := Lib.hid (RNat.intro (h3.mono HE.out.size (Kept.refl _ _)) (Ext.trans HE.out hE3))
      clear h3 hE3 hNR
      go_wp2_with fail
      go_ret
      exact HF.out
set_option maxRecDepth 100000 in
set_option maxHeartbeats 1000000 in
theorem r1Add_ge (B : Nat) (w : World) (a a2 : Option Addr) (n c n2 c2 : Nat) (l l2 : Nt) (h : NatS B w a n c l) (h2 : NatS B w a2 n2 c2 l2) (hn : n ≤ 8796093022208) (hn2 : n2 ≤ 8796093022208) (hc : n2 ≤ n) (m : Nat) (hm : Hid (val l + val l2 = m)) :
    Calls Tryz.prog 149 #[.slice a n c, .slice a2 n2 c2] w (RNat w m) := by
  have HN := Lib.hid h
  have hs1 := h.small
  have hl1 := Lib.hid h.len
  have HN2 := Lib.hid h2
  have hs2 := h2.small
  have hl2 := Lib.hid h2.len
  have HEND : Hid (val (outs addOut addNxt 0 l l2 (n + 1)) = m) := Lib.hid (by rw [add_end1 hs1 hs2 (by rw [hl1.out]; omega) (by rw [hl2.out]; omega)]; exact hm.out)
  have hmk := fun w => make_words under_nat info_u32 (n + 1) (n + 1) (Nat.le_refl _) (by omega) w
  rw [show ((n + 1 : Nat) : Int) = (n : Int) + 1 from by omega] at hmk
  have hcb : decide (n < n2) = false := by simp; omega
  clear h h2 hm
  go_enter Tryz.func149, Tryz.ntmps149
  go_wp2_with fail
  go_loopg [7, 23] (n + 1) (fun q cs i wr => ∃ k : Nat, k ≤ n + 1 ∧ q = n + 1 - k ∧ i = .int .i64 (k : Int) ∧ cs = .int .u64 ((stp addNxt 0 l l2 k : Nat) : Int) ∧ Hid (Blk wr w.heap.size 126 (words (outs (addOut) (addNxt) 0 l l2 k ++ List.replicate (n + 1 - k) 0))) ∧ Hid (Ext w wr))
  case atStart => exact ⟨0, Nat.zero_le _, by omega, rfl, rfl, Lib.hid (Blk.new _ _ _), Lib.hid ((Below.refl _ _).alloc (Nat.le_refl _) _)⟩
  case round =>
    obtain ⟨k, hk, hq, rfl, rfl, HB, HE⟩ := hrel
    by_cases hkm : k < n + 1
    · have HFILL := Lib.hid (outs_fill (addOut) (addNxt) 0 l l2 k (n + 1) hkm)
      have K1 := Lib.hid (limb_any B wr a n c l (HN.out.ext (Nat.le_refl _) HE.out) k (by omega))
      have hx := hs1.get k
      have K2 := Lib.hid (limb_any B wr a2 n2 c2 l2 (HN2.out.ext (Nat.le_refl _) HE.out) k (by omega))
      have hy := hs2.get k
      have hst := add_stp_le l l2 hs1 hs2 k
      have HST : Hid (stp addNxt 0 l l2 (k + 1) = addNxt (stp addNxt 0 l l2 k) (l[k]?.getD 0) (l2[k]?.getD 0)) := Lib.hid rfl
      have hL : (words (outs (addOut) (addNxt) 0 l l2 k ++ List.replicate (n + 1 - k) 0)).size = n + 1 := by rw [words_size, List.length_append, length_outs, List.length_replicate]; omega
      have HKC : Hid ((outs (addOut) (addNxt) 0 l l2 k ++ List.replicate (n + 1 - k) 0) = (outs (addOut) (addNxt) 0 l l2 k ++ List.replicate (n + 1 - k) 0)) := Lib.hid rfl
      generalize hLL : outs (addOut) (addNxt) 0 l l2 k ++ List.replicate (n + 1 - k) 0 = L at *
      clear hLL HKC
      generalize l[k]?.getD 0 = x at *
      generalize l2[k]?.getD 0 = y at *
      generalize stp addNxt 0 l l2 k = s at *
      have hco := HB.out.word (i := k) (by rw [words_size] at hL; omega)
      have hfr := HB.out.free k
      have hwl := HB.out.lt
      have hkc : (k : Int) < (n : Int) + 1 := by omega
      clear hL
      go_wp2_with (go_at_call 162; first | ((with_reducible refine K1.out.mono ?_); rintro e w' ⟨rfl, rfl⟩) | ((with_reducible refine K2.out.mono ?_); rintro e w' ⟨rfl, rfl⟩))
      go_roundg (n + 1 - (k + 1))
      case measure => omega
      case rel =>
        refine ⟨k + 1, by omega, rfl, by go_num, (by rw [HST.out]; exact congrArg (Value.int .u64) (by unfold addNxt; omega)), Lib.hid ?_, Lib.hid (HE.out.setCell (Nat.le_refl _) _)⟩
        have := HB.out.set k (.int .u32 ((addOut s x y : Nat) : Int))
        rw [words_set, HFILL.out] at this
        have key : ∀ v : Int, v = ((addOut s x y : Nat) : Int) → Blk (wr.setCell ⟨w.heap.size, k, none⟩ (.int .u32 v)) w.heap.size 126 (words (outs (addOut) (addNxt) 0 l l2 (k + 1) ++ List.replicate (n + 1 - (k + 1)) 0)) := fun v hv => by subst hv; exact this
        exact key _ (by unfold addOut; omega)
    · obtain rfl : n + 1 = k := by omega
      have hNR : NatS w.heap.size wr (some ⟨w.heap.size, 0, none⟩) (n + 1) (n + 1) (outs (addOut) (addNxt) 0 l l2 (n + 1)) := by
        have := HB.out.nat (B := w.heap.size) (Nat.le_refl _) ((small_outs (addOut) (addNxt) 0 l l2 (addOut_lt) _).append (small_replicate _)) (n + 1) (by rw [List.length_append, length_outs]; omega) (Nat.le_refl _) (by omega)
        rwa [Nat.sub_self, List.replicate_zero, List.append_nil, List.take_of_length_le (by rw [length_outs]; omega)] at this
      clear HB
      go_wp2_with fail
      refine (r1Norm_any w.heap.size wr _ _ _ _ hNR (by omega)).mono ?_
      rintro e w3 ⟨a3, n3, c3, rfl, h3, hE3⟩
      rw [HEND.out] at h3
      have HF := Lib.hid (RNat.intro (h3.mono HE.out.size (Kept.refl _ _)) (Ext.trans HE.out hE3))
      clear h3 hE3 hNR
      go_wp2_with fail
      go_ret
      exact HF.out
set_option maxRecDepth 100000 in
set_option maxHeartbeats 1000000 in
theorem r1Add_lt (B : Nat) (w : World) (a a2 : Option Addr) (n c n2 c2 : Nat) (l l2 : Nt) (h : NatS B w a n c l) (h2 : NatS B w a2 n2 c2 l2) (hn : n ≤ 8796093022208) (hn2 : n2 ≤ 8796093022208) (hc : n < n2) (m : Nat) (hm : Hid (val l + val l2 = m)) :
    Calls Tryz.prog 149 #[.slice a n c, .slice a2 n2 c2] w (RNat w m) := by
  have HN := Lib.hid h
  have hs1 := h.small
  have hl1 := Lib.hid h.len
  have HN2 := Lib.hid h2
  have hs2 := h2.small
  have hl2 := Lib.hid h2.len
  have HEND : Hid (val (outs addOut addNxt 0 l l2 (n2 + 1)) = m) := Lib.hid (by rw [add_end1 hs1 hs2 (by rw [hl1.out]; omega) (by rw [hl2.out]; omega)]; exact hm.out)
  have hmk := fun w => make_words under_nat info_u32 (n2 + 1) (n2 + 1) (Nat.le_refl _) (by omega) w
  rw [show ((n2 + 1 : Nat) : Int) = (n2 : Int) + 1 from by omega] at hmk
  have hcb : decide (n < n2) = true := by simp; omega
  clear h h2 hm
  go_enter Tryz.func149, Tryz.ntmps149
  go_wp2_with fail
  go_loopg [7, 23] (n2 + 1) (fun q cs i wr => ∃ k : Nat, k ≤ n2 + 1 ∧ q = n2 + 1 - k ∧ i = .int .i64 (k : Int) ∧ cs = .int .u64 ((stp addNxt 0 l l2 k : Nat) : Int) ∧ Hid (Blk wr w.heap.size 126 (words (outs (addOut) (addNxt) 0 l l2 k ++ List.replicate (n2 + 1 - k) 0))) ∧ Hid (Ext w wr))
  case atStart => exact ⟨0, Nat.zero_le _, by omega, rfl, rfl, Lib.hid (Blk.new _ _ _), Lib.hid ((Below.refl _ _).alloc (Nat.le_refl _) _)⟩
  case round =>
    obtain ⟨k, hk, hq, rfl, rfl, HB, HE⟩ := hrel
    by_cases hkm : k < n2 + 1
    · have HFILL := Lib.hid (outs_fill (addOut) (addNxt) 0 l l2 k (n2 + 1) hkm)
      have K1 := Lib.hid (limb_any B wr a n c l (HN.out.ext (Nat.le_refl _) HE.out) k (by omega))
      have hx := hs1.get k
      have K2 := Lib.hid (limb_any B wr a2 n2 c2 l2 (HN2.out.ext (Nat.le_refl _) HE.out) k (by omega))
      have hy := hs2.get k
      have hst := add_stp_le l l2 hs1 hs2 k
      have HST : Hid (stp addNxt 0 l l2 (k + 1) = addNxt (stp addNxt 0 l l2 k) (l[k]?.getD 0) (l2[k]?.getD 0)) := Lib.hid rfl
      have hL : (words (outs (addOut) (addNxt) 0 l l2 k ++ List.replicate (n2 + 1 - k) 0)).size = n2 + 1 := by rw [words_size, List.length_append, length_outs, List.length_replicate]; omega
      have HKC : Hid ((outs (addOut) (addNxt) 0 l l2 k ++ List.replicate (n2 + 1 - k) 0) = (outs (addOut) (addNxt) 0 l l2 k ++ List.replicate (n2 + 1 - k) 0)) := Lib.hid rfl
      generalize hLL : outs (addOut) (addNxt) 0 l l2 k ++ List.replicate (n2 + 1 - k) 0 = L at *
      clear hLL HKC
      generalize l[k]?.getD 0 = x at *
      generalize l2[k]?.getD 0 = y at *
      generalize stp addNxt 0 l l2 k = s at *
      have hco := HB.out.word (i := k) (by rw [words_size] at hL; omega)
      have hfr := HB.out.free k
      have hwl := HB.out.lt
      have hkc : (k : Int) < (n2 : Int) + 1 := by omega
      clear hL
      go_wp2_with (go_at_call 162; first | ((with_reducible refine K1.out.mono ?_); rintro e w' ⟨rfl, rfl⟩) | ((with_reducible refine K2.out.mono ?_); rintro e w' ⟨rfl, rfl⟩))
      go_roundg (n2 + 1 - (k + 1))
      case measure => omega
      case rel =>
        refine ⟨k + 1, by omega, rfl, by go_num, (by rw [HST.out]; exact congrArg (Value.int .u64) (by unfold addNxt; omega)), Lib.hid ?_, Lib.hid (HE.out.setCell (Nat.le_refl _) _)⟩
        have := HB.out.set k (.int .u32 ((addOut s x y : Nat) : Int))
        rw [words_set, HFILL.out] at this
        have key : ∀ v : Int, v = ((addOut s x y : Nat) : Int) → Blk (wr.setCell ⟨w.heap.size, k, none⟩ (.int .u32 v)) w.heap.size 126 (words (outs (addOut) (addNxt) 0 l l2 (k + 1) ++ List.replicate (n2 + 1 - (k + 1)) 0)) := fun v hv => by subst hv; exact this
        exact key _ (by unfold addOut; omega)
    · obtain rfl : n2 + 1 = k := by omega
      have hNR : NatS w.heap.size wr (some ⟨w.heap.size, 0, none⟩) (n2 + 1) (n2 + 1) (outs (addOut) (addNxt) 0 l l2 (n2 + 1)) := by
        have := HB.out.nat (B := w.heap.size) (Nat.le_refl _) ((small_outs (addOut) (addNxt) 0 l l2 (addOut_lt) _).append (small_replicate _)) (n2 + 1) (by rw [List.length_append, length_outs]; omega) (Nat.le_refl _) (by omega)
        rwa [Nat.sub_self, List.replicate_zero, List.append_nil, List.take_of_length_le (by rw [length_outs]; omega)] at this
      clear HB
      go_wp2_with fail
      refine (r1Norm_any w.heap.size wr _ _ _ _ hNR (by omega)).mono ?_
      rintro e w3 ⟨a3, n3, c3, rfl, h3, hE3⟩
      rw [HEND.out] at h3
      have HF := Lib.hid (RNat.intro (h3.mono HE.out.size (Kept.refl _ _)) (Ext.trans HE.out hE3))
      clear h3 hE3 hNR
      go_wp2_with fail
      go_ret
      exact HF.out
theorem r1Add_any (B : Nat) (w : World) (a a2 : Option Addr) (n c n2 c2 : Nat) (l l2 : Nt) (h : NatS B w a n c l) (h2 : NatS B w a2 n2 c2 l2) (hn : n ≤ 8796093022208) (hn2 : n2 ≤ 8796093022208) (m : Nat) (hm : Hid (val l + val l2 = m)) :
    Calls Tryz.prog 149 #[.slice a n c, .slice a2 n2 c2] w (RNat w m) := by
  rcases Nat.lt_or_ge n n2 with hc | hc
  · exact r1Add_lt B w a a2 n c n2 c2 l l2 h h2 hn hn2 hc m hm
  · exact r1Add_ge B w a a2 n c n2 c2 l l2 h h2 hn hn2 hc m hm

set_option maxRecDepth 100000 in
set_option maxHeartbeats 1000000 in
theorem r1Small_any (B : Nat) (w : World) (a : Option Addr) (n c : Nat) (l : Nt) (h : NatS B w a n c l) (hn : n ≤ 8796093022208) (wd : Nat) (hwd : wd < 4294967296) (m : Nat) (hm : Hid (val l * wd = m)) :
    Calls Tryz.prog 164 #[.slice a n c, .int .u32 (wd : Int)] w (RNat w m) := by
  have HN := Lib.hid h
  have hs1 := h.small
  have hl1 := Lib.hid h.len
  have HEND : Hid (val (outs (smOut wd) (smNxt wd) 0 l l (n + 1)) = m) := Lib.hid (by
    have := sm_end hwd hs1 l
    rw [hl1.out] at this
    rw [this]; exact hm.out)
  have hmk := fun w => make_words under_nat info_u32 (n + 1) (n + 1) (Nat.le_refl _) (by omega) w
  rw [show ((n + 1 : Nat) : Int) = (n : Int) + 1 from by omega] at hmk
  clear h hm
  go_enter Tryz.func164, Tryz.ntmps164
  go_wp2_with fail
  go_loopg [6, 15] (n + 1) (fun q cs i wr => ∃ k : Nat, k ≤ n + 1 ∧ q = n + 1 - k ∧ i = .int .i64 (k : Int) ∧ cs = .int .u64 ((stp (smNxt wd) 0 l l k : Nat) : Int) ∧ Hid (Blk wr w.heap.size 126 (words (outs (smOut wd) (smNxt wd) 0 l l k ++ List.replicate (n + 1 - k) 0))) ∧ Hid (Ext w wr))
  case atStart => exact ⟨0, Nat.zero_le _, by omega, rfl, rfl, Lib.hid (Blk.new _ _ _), Lib.hid ((Below.refl _ _).alloc (Nat.le_refl _) _)⟩
  case round =>
    obtain ⟨k, hk, hq, rfl, rfl, HB, HE⟩ := hrel
    by_cases hkm : k < n + 1
    · have HFILL := Lib.hid (outs_fill (smOut wd) (smNxt wd) 0 l l k (n + 1) hkm)
      have K1 := Lib.hid (limb_any B wr a n c l (HN.out.ext (Nat.le_refl _) HE.out) k (by omega))
      have hx := hs1.get k
      have hst := sm_stp_lt hwd (l2 := l) hs1 k
      have HST : Hid (stp (smNxt wd) 0 l l (k + 1) = smNxt wd (stp (smNxt wd) 0 l l k) (l[k]?.getD 0) (l[k]?.getD 0)) := Lib.hid rfl
      have hL : (words (outs (smOut wd) (smNxt wd) 0 l l k ++ List.replicate (n + 1 - k) 0)).size = n + 1 := by rw [words_size, List.length_append, length_outs, List.length_replicate]; omega
      have HKC : Hid ((outs (smOut wd) (smNxt wd) 0 l l k ++ List.replicate (n + 1 - k) 0) = (outs (smOut wd) (smNxt wd) 0 l l k ++ List.replicate (n + 1 - k) 0)) := Lib.hid rfl
      generalize hLL : outs (smOut wd) (smNxt wd) 0 l l k ++ List.replicate (n + 1 - k) 0 = L at *
      clear hLL HKC
      generalize l[k]?.getD 0 = x at *
      generalize stp (smNxt wd) 0 l l k = s at *
      have hco := HB.out.word (i := k) (by rw [words_size] at hL; omega)
      have hfr := HB.out.free k
      have hwl := HB.out.lt
      have hkc : (k : Int) < (n : Int) + 1 := by omega
      have hcc := sm_bound hx hwd hst
      have hcc0 : 0 ≤ (x : Int) * (wd : Int) := Int.mul_nonneg (by omega) (by omega)
      clear hL
      go_wp2_with (go_at_call 162; (with_reducible refine K1.out.mono ?_); rintro e w' ⟨rfl, rfl⟩)
      go_roundg (n + 1 - (k + 1))
      case measure => omega
      case rel =>
        refine ⟨k + 1, by omega, rfl, by go_num, (by rw [HST.out]; exact congrArg (Value.int .u64) (by unfold smNxt; simp only [Int.natCast_ediv, Int.natCast_add, Int.natCast_mul]; rfl)), Lib.hid ?_, Lib.hid (HE.out.setCell (Nat.le_refl _) _)⟩
        have := HB.out.set k (.int .u32 ((smOut wd s x x : Nat) : Int))
        rw [words_set, HFILL.out] at this
        have key : ∀ v : Int, v = ((smOut wd s x x : Nat) : Int) → Blk (wr.setCell ⟨w.heap.size, k, none⟩ (.int .u32 v)) w.heap.size 126 (words (outs (smOut wd) (smNxt wd) 0 l l (k + 1) ++ List.replicate (n + 1 - (k + 1)) 0)) := fun v hv => by subst hv; exact this
        exact key _ (by unfold smOut; simp only [Int.natCast_emod, Int.natCast_add, Int.natCast_mul]; rfl)
    · obtain rfl : n + 1 = k := by omega
      have hNR : NatS w.heap.size wr (some ⟨w.heap.size, 0, none⟩) (n + 1) (n + 1) (outs (smOut wd) (smNxt wd) 0 l l (n + 1)) := by
        have := HB.out.nat (B := w.heap.size) (Nat.le_refl _) ((small_outs (smOut wd) (smNxt wd) 0 l l ((fun _ _ _ => Nat.mod_lt _ (by decide))) _).append (small_replicate _)) (n + 1) (by rw [List.length_append, length_outs]; omega) (Nat.le_refl _) (by omega)
        rwa [Nat.sub_self, List.replicate_zero, List.append_nil, List.take_of_length_le (by rw [length_outs]; omega)] at this
      clear HB
      go_wp2_with fail
      refine (r1Norm_any w.heap.size wr _ _ _ _ hNR (by omega)).mono ?_
      rintro e w3 ⟨a3, n3, c3, rfl, h3, hE3⟩
      rw [HEND.out] at h3
      have HF := Lib.hid (RNat.intro (h3.mono HE.out.size (Kept.refl _ _)) (Ext.trans HE.out hE3))
      clear h3 hE3 hNR
      go_wp2_with fail
      go_ret
      exact HF.out
set_option maxRecDepth 100000 in
set_option maxHeartbeats 1000000 in
theorem r1half_any (B : Nat) (w : World) (a : Option Addr) (n c : Nat) (l : Nt) (h : NatS B w a n c l) (hn : n ≤ 8796093022208) (m : Nat) (hm : Hid (val l / 2 = m)) :
    Calls Tryz.prog 157 #[.slice a n c] w (RNat w m) := by
  have HN := Lib.hid h
  have hs1 := h.small
  have hl1 := Lib.hid h.len
  have HEND : Hid (val (rights 1 l n) = m) := Lib.hid (by
    have := rights_end (s := 1) hs1 (by decide) (k := n) (by rw [hl1.out]; omega)
    rw [this, Nat.pow_one]; exact hm.out)
  have hmk := fun w => make_words under_nat info_u32 n n (Nat.le_refl _) (by omega) w
  clear h hm
  go_enter Tryz.func157, Tryz.ntmps157
  go_wp2_with fail
  go_loopg [10] (n) (fun q i wr => ∃ k : Nat, k ≤ n ∧ q = n - k ∧ i = .int .i64 (k : Int) ∧ Hid (Blk wr w.heap.size 126 (words (rights 1 l k ++ List.replicate (n - k) 0))) ∧ Hid (Ext w wr))
  case atStart => exact ⟨0, Nat.zero_le _, by omega, rfl, Lib.hid (Blk.new _ _ _), Lib.hid ((Below.refl _ _).alloc (Nat.le_refl _) _)⟩
  case round =>
    obtain ⟨k, hk, hq, rfl, HB, HE⟩ := hrel
    by_cases hkm : k < n
    · have HFILL := Lib.hid (rights_fill 1 l k (n) hkm)
      have K1 := Lib.hid (limb_any B wr a n c l (HN.out.ext (Nat.le_refl _) HE.out) k (by omega))
      have hx := hs1.get k
      have K2 := Lib.hid (limb_any B wr a n c l (HN.out.ext (Nat.le_refl _) HE.out) (k + 1) (by omega))
      have hk1 : ((k + 1 : Nat) : Int) = (k : Int) + 1 := by omega
      rw [hk1] at K2
      clear hk1
      have hy := hs1.get (k + 1)
      have hL : (words (rights 1 l k ++ List.replicate (n - k) 0)).size = n := by rw [words_size, List.length_append, length_rights, List.length_replicate]; omega
      have HKC : Hid ((rights 1 l k ++ List.replicate (n - k) 0) = (rights 1 l k ++ List.replicate (n - k) 0)) := Lib.hid rfl
      generalize hLL : rights 1 l k ++ List.replicate (n - k) 0 = L at *
      clear hLL HKC
      generalize l[k]?.getD 0 = x at *
      generalize l[k + 1]?.getD 0 = y at *
      have hco := HB.out.word (i := k) (by rw [words_size] at hL; omega)
      have hfr := HB.out.free k
      have hwl := HB.out.lt
      have hkc : (k : Int) < (n : Int) := by omega
      clear hL
      go_wp2_with (go_at_call 162; first | ((with_reducible refine K1.out.mono ?_); rintro e w' ⟨rfl, rfl⟩) | ((with_reducible refine K2.out.mono ?_); rintro e w' ⟨rfl, rfl⟩))
      go_roundg (n - (k + 1))
      case measure => omega
      case rel =>
        refine ⟨k + 1, by omega, rfl, by go_num, Lib.hid ?_, Lib.hid (HE.out.setCell (Nat.le_refl _) _)⟩
        have := HB.out.set k (.int .u32 (((x + 4294967296 * y) / 2 ^ 1 % 4294967296 : Nat) : Int))
        rw [words_set, HFILL.out] at this
        have key : ∀ v : Int, v = (((x + 4294967296 * y) / 2 ^ 1 % 4294967296 : Nat) : Int) → Blk (wr.setCell ⟨w.heap.size, k, none⟩ (.int .u32 v)) w.heap.size 126 (words (rights 1 l (k + 1) ++ List.replicate (n - (k + 1)) 0)) := fun v hv => by subst hv; exact this
        exact key _ (by omega)
    · obtain rfl : n = k := by omega
      have hNR : NatS w.heap.size wr (some ⟨w.heap.size, 0, none⟩) (n) (n) (rights 1 l (n)) := by
        have := HB.out.nat (B := w.heap.size) (Nat.le_refl _) ((small_rights 1 l _).append (small_replicate _)) (n) (by rw [List.length_append, length_rights]; omega) (Nat.le_refl _) (by omega)
        rwa [Nat.sub_self, List.replicate_zero, List.append_nil, List.take_of_length_le (by rw [length_rights]; omega)] at this
      clear HB
      go_wp2_with fail
      refine (r1Norm_any w.heap.size wr _ _ _ _ hNR (by omega)).mono ?_
      rintro e w3 ⟨a3, n3, c3, rfl, h3, hE3⟩
      rw [HEND.out] at h3
      have HF := Lib.hid (RNat.intro (h3.mono HE.out.size (Kept.refl _ _)) (Ext.trans HE.out hE3))
      clear h3 hE3 hNR
      go_wp2_with fail
      go_ret
      exact HF.out
end Go.Proofs.YtbhenelehhiakaaGreat
