/-
  The references' natural numbers, part 3: sums, differences, products by a word, halves, shifts.
-/
import Derived.Test.YtbhenelehhiakaaGreatVct2
import Derived.Maps.AppendAt
import Derived.Maps.OwnIn
import Derived.IntWalk
import Derived.Deep.RegionHeld3
set_option linter.unusedVariables false
set_option linter.unusedSimpArgs false
namespace Go.Proofs.YtbhenelehhiakaaGreat
open Go.RowKit
theorem run_append_src {P : Program} (w : World) (base : Nat) (t ty e : TypeId) (i : TypeInfo) (z : Value) (size bytes : Nat) (ht : P.underlying t = some (.slice e)) (hi : P.info? e = some i) (hz : i.zero = some z)
  (hsize : i.size = size) (hby : i.bytes = bytes) (hzs : z.cells.size = size) (hsz : 0 < size) (v : Value) (n : Nat) (xs : List Value) (hown : w.ownsRow base e size v n xs)
  (A : Option Addr) (m c : Nat) (news : List Value) (hA : A = none → m = 0) (hl : news.length = m * size) (hr : ∀ ad, A = some ad → ∀ j u, news[j]? = some u → w.cell? (ad.add j) = some u) (h1 : ∀ u ∈ news, u.oneCell' = true)
  (h63 : n + m ≤ maxLen) (hbytes : (n + m) * bytes ≤ 140737488355328) (hbase : base ≤ w.heap.size) :
  ∃ v' w', (Builtin.append_ #[t, t] ty #[v, .slice A m c]).run P w = .ok v' w' ∧ w'.ownsRow base e size v' (n + m) (xs ++ news) ∧ w.grownBy w' v.ownBlock ∧ (v'.ownBlock = v.ownBlock ∨ v'.ownBlock = some w.heap.size) := by
 cases A with
 | some ad =>
  obtain ⟨v', w', hrun, h2, h3, _, h5⟩ := run_append_own_at (P := P) w base t ty e i z size bytes ht hi hz hsize hby hzs hsz v n xs hown ad m c news hl (hr ad rfl) h1 h63 hbytes hbase
  exact ⟨v', w', hrun, h2, h3, h5⟩
 | none =>
  obtain rfl := hA rfl
  obtain rfl : news = [] := List.eq_nil_of_length_eq_zero (by simpa using hl)
  refine ⟨v, w, ?_, by simpa using hown, World.grownBy.refl w _, .inl rfl⟩
  rcases hown.2 with ⟨rfl, rfl⟩ | ⟨g, cap, cur, rfl, _, _, hnc, _⟩
  ·simp [Builtin.append_, run_underlying ht, sizeOf, typeInfo, hi, Builtin.lenOf, Builtin.firstCells]
  ·simp [Builtin.append_, run_underlying ht, sizeOf, typeInfo, hi, Builtin.lenOf, Builtin.firstCells, hnc, storeCells]
theorem wp_append_src {P : Program} (w : World) {o : Oper} {a : Act} {K : Act → World → Prop} {Q : Exit → Act → World → Prop} (s x : Operand) (t : TypeId) (ho : o.op = .call { callee := .builtin .append, args := #[s, x], argTypes := #[t, t] })
  (base : Nat) (e : TypeId) (i : TypeInfo) (z : Value) (size bytes : Nat) (ht : P.underlying t = some (.slice e)) (hi : P.info? e = some i) (hz : i.zero = some z)
  (hsize : i.size = size) (hby : i.bytes = bytes) (hzs : z.cells.size = size) (hsz : 0 < size) (v : Value) (n : Nat) (xs : List Value) (hs : a.eval s = v) (hown : w.ownsRow base e size v n xs)
  (A : Option Addr) (m c : Nat) (news : List Value) (hx : a.eval x = .slice A m c) (hA : A = none → m = 0) (hl : news.length = m * size) (hr : ∀ ad, A = some ad → ∀ j u, news[j]? = some u → w.cell? (ad.add j) = some u) (h1 : ∀ u ∈ news, u.oneCell' = true)
  (h63 : n + m ≤ maxLen) (hbytes : (n + m) * bytes ≤ 140737488355328) (hbase : base ≤ w.heap.size)
  (h : ∀ v' w', w'.ownsRow base e size v' (n + m) (xs ++ news) → w.grownBy w' v.ownBlock → (v'.ownBlock = v.ownBlock ∨ v'.ownBlock = some w.heap.size) → K (a.put o.dst v') w') : o.wp P a w K Q := by
 obtain ⟨v', w', hrun, h2, h3, h4⟩ := run_append_src (P := P) w base t o.type e i z size bytes ht hi hz hsize hby hzs hsz v n xs hown A m c news hA hl hr h1 h63 hbytes hbase
 unfold Oper.wp execOp
 simp only [ho, resolve, invoke, builtin, Sem.run_bind, Sem.run_pure, Result.andThen_ok, List.map_toArray, List.map_cons, List.map_nil, hs, hx, hrun]
 exact h v' w' h2 h3 h4
theorem wpList_append_src {P : Program} {w : World} {ops : Array Oper} {rest : List Oper} {o : Oper} {a : Act} {Q : Exit → Act → World → Prop} (hgd : o.guard = none) (s x : Operand) (t : TypeId) (ho : o.op = .call { callee := .builtin .append, args := #[s, x], argTypes := #[t, t] })
  (base : Nat) (e : TypeId) (i : TypeInfo) (z : Value) (size bytes : Nat) (ht : P.underlying t = some (.slice e)) (hi : P.info? e = some i) (hz : i.zero = some z)
  (hsize : i.size = size) (hby : i.bytes = bytes) (hzs : z.cells.size = size) (hsz : 0 < size) (v : Value) (n : Nat) (xs : List Value) (hs : a.eval s = v) (hown : w.ownsRow base e size v n xs)
  (A : Option Addr) (m c : Nat) (news : List Value) (hx : a.eval x = .slice A m c) (hA : A = none → m = 0) (hl : news.length = m * size) (hr : ∀ ad, A = some ad → ∀ j u, news[j]? = some u → w.cell? (ad.add j) = some u) (h1 : ∀ u ∈ news, u.oneCell' = true)
  (h63 : n + m ≤ maxLen) (hbytes : (n + m) * bytes ≤ 140737488355328) (hbase : base ≤ w.heap.size)
  (h : ∀ v' w', w'.ownsRow base e size v' (n + m) (xs ++ news) → w.grownBy w' v.ownBlock → (v'.ownBlock = v.ownBlock ∨ v'.ownBlock = some w.heap.size) → wpList P ops Q rest (a.put o.dst v') w') : wpList P ops Q (o :: rest) a w :=
 wpList_plain hgd fun _ hK => wp_append_src w s x t ho base e i z size bytes ht hi hz hsize hby hzs hsz v n xs hs hown A m c news hx hA hl hr h1 h63 hbytes hbase fun v' w' h2 h3 h4 => hK _ _ (h v' w' h2 h3 h4)
theorem step_append_src {P : Program} {w : World} {ops : Array Oper} {o : Oper} {a : Act} {K : Act → World → Prop} {Q : Exit → Act → World → Prop} {E : Prop} (hgd : o.guard = none) (s x : Operand) (t : TypeId) (ho : o.op = .call { callee := .builtin .append, args := #[s, x], argTypes := #[t, t] })
  (base : Nat) (e : TypeId) (i : TypeInfo) (z : Value) (size bytes : Nat) (ht : P.underlying t = some (.slice e)) (hi : P.info? e = some i) (hz : i.zero = some z)
  (hsize : i.size = size) (hby : i.bytes = bytes) (hzs : z.cells.size = size) (hsz : 0 < size) (v : Value) (n : Nat) (xs : List Value) (hs : a.eval s = v) (hown : w.ownsRow base e size v n xs)
  (A : Option Addr) (m c : Nat) (news : List Value) (hx : a.eval x = .slice A m c) (hA : A = none → m = 0) (hl : news.length = m * size) (hr : ∀ ad, A = some ad → ∀ j u, news[j]? = some u → w.cell? (ad.add j) = some u) (h1 : ∀ u ∈ news, u.oneCell' = true)
  (h63 : n + m ≤ maxLen) (hbytes : (n + m) * bytes ≤ 140737488355328) (hbase : base ≤ w.heap.size)
  (h : ∀ v' w', w'.ownsRow base e size v' (n + m) (xs ++ news) → w.grownBy w' v.ownBlock → (v'.ownBlock = v.ownBlock ∨ v'.ownBlock = some w.heap.size) → K (a.put o.dst v') w') :
  if Region.wanted o (yielded ops a.tmps) = true then Oper.wp P o a w K Q else E := by
 rw [if_pos (by simp [Region.wanted, hgd])]
 exact wp_append_src w s x t ho base e i z size bytes ht hi hz hsize hby hzs hsz v n xs hs hown A m c news hx hA hl hr h1 h63 hbytes hbase h
theorem NatS.src {B : Nat} {w : World} {a : Option Addr} {n c : Nat} {l : Nt} (h : NatS B w a n c l) : (a = none → n = 0) ∧ ∀ ad, a = some ad → ∀ j u, (l.map fun x : Nat => Value.int .u32 (x : Int))[j]? = some u → w.cell? (ad.add j) = some u := by
 refine ⟨fun e => by have := h.nil e; have := h.cap; omega, fun ad e j u hu => ?_⟩
 rw [List.getElem?_map] at hu
 by_cases hj : j < l.length
 ·obtain ⟨b, o, e1, _, hc⟩ := h.at' (k := j) (by rw [← h.len]; exact hj)
  rw [e] at e1
  cases e1
  rw [List.getElem?_eq_getElem hj] at hu hc
  cases hu
  by_cases hj0 : j = 0
  ·subst hj0; simpa [Addr.add] using hc
  ·simpa [Addr.add, hj0] using hc
 ·rw [List.getElem?_eq_none (by omega)] at hu; cases hu
theorem stp_sub_le (l l2 : List Nat) (k : Nat) : stp subNxt 0 l l2 k ≤ 1 := by
 cases k with
 | zero => exact Nat.zero_le _
 | succ k => exact subNxt_le _ _ _
theorem sm_bound {x wd s : Nat} (hx : x < 4294967296) (hw : wd < 4294967296) (hs : s < 4294967296) : (x : Int) * (wd : Int) + s < 18446744073709551616 := by
 have h : x * wd ≤ 4294967295 * 4294967295 := Nat.mul_le_mul (by omega) (by omega)
 have : ((x * wd : Nat) : Int) = (x : Int) * wd := Int.natCast_mul _ _
 omega
set_option maxRecDepth 100000 in
set_option maxHeartbeats 1000000 in
theorem r1Sub_any (B : Nat) (w : World) (a a2 : Option Addr) (n c n2 c2 : Nat) (l l2 : Nt) (h : NatS B w a n c l) (h2 : NatS B w a2 n2 c2 l2) (hn : n ≤ 17592186044416) (hnn : n2 ≤ n) (m : Nat) (hle : val l2 ≤ val l) (hm : Hid (val l - val l2 = m)) :
  Calls Tryz.prog 151 #[.slice a n c, .slice a2 n2 c2] w (RNat w m) := by
 have HN := Lib.hid h
 have hs1 := h.small
 have hl1 := Lib.hid h.len
 have HN2 := Lib.hid h2
 have hs2 := h2.small
 have hl2 := Lib.hid h2.len
 have HEND : Hid (val (outs subOut subNxt 0 l l2 n) = m) := Lib.hid (by rw [sub_end hs1 hs2 hle n (by rw [hl1.out]; omega) (by rw [hl2.out]; omega)]; exact hm.out)
 have hmk := fun w => make_words under_nat info_u32 n n (Nat.le_refl _) (by omega) w
 have hmost := h.most
 have hcap := h.cap
 clear h h2 hle hm
 go_enter Tryz.func151, Tryz.ntmps151
 go_wp2_with fail
 go_loopg [6, 14] (n) (fun q cs i wr => ∃ k : Nat, k ≤ n ∧ q = n - k ∧ i = .int .i64 (k : Int) ∧ cs = .int .u64 ((stp subNxt 0 l l2 k : Nat) : Int) ∧ Hid (Blk wr w.heap.size 126 (words (outs (subOut) (subNxt) 0 l l2 k ++ List.replicate (n - k) 0))) ∧ Hid (Ext w wr))
 case atStart => exact ⟨0, Nat.zero_le _, by omega, rfl, rfl, Lib.hid (Blk.new _ _ _), Lib.hid ((Below.refl _ _).alloc (Nat.le_refl _) _)⟩
 case round =>
  obtain ⟨k, hk, hq, rfl, rfl, HB, HE⟩ := hrel
  by_cases hkm : k < n
  ·have HFILL := Lib.hid (outs_fill (subOut) (subNxt) 0 l l2 k (n) hkm)
   have K1 := Lib.hid (limb_any B wr a n c l (HN.out.ext (Nat.le_refl _) HE.out) k (by omega))
   have hx := hs1.get k
   have K2 := Lib.hid (limb_any B wr a2 n2 c2 l2 (HN2.out.ext (Nat.le_refl _) HE.out) k (by omega))
   have hy := hs2.get k
   have hst := stp_sub_le l l2 k
   have HST : Hid (stp subNxt 0 l l2 (k + 1) = subNxt (stp subNxt 0 l l2 k) (l[k]?.getD 0) (l2[k]?.getD 0)) := Lib.hid rfl
   have hL : (words (outs (subOut) (subNxt) 0 l l2 k ++ List.replicate (n - k) 0)).size = n := by rw [words_size, List.length_append, length_outs, List.length_replicate]; omega
   have HKC : Hid ((outs (subOut) (subNxt) 0 l l2 k ++ List.replicate (n - k) 0) = (outs (subOut) (subNxt) 0 l l2 k ++ List.replicate (n - k) 0)) := Lib.hid rfl
   generalize hLL : outs (subOut) (subNxt) 0 l l2 k ++ List.replicate (n - k) 0 = L at *
   clear hLL HKC
   generalize l[k]?.getD 0 = x at *
   generalize l2[k]?.getD 0 = y at *
   generalize stp subNxt 0 l l2 k = s at *
   have hco := HB.out.word (i := k) (by rw [words_size] at hL; omega)
   have hfr := HB.out.free k
   have hwl := HB.out.lt
   have hkc : (k : Int) < (n : Int) := by omega
   clear hL
   go_wp2_with (go_at_call 162; first | ((with_reducible refine K1.out.mono ?_); rintro e w' ⟨rfl, rfl⟩) | ((with_reducible refine K2.out.mono ?_); rintro e w' ⟨rfl, rfl⟩))
   go_roundg (n - (k + 1))
   case measure => omega
   case rel =>
    refine ⟨k + 1, by omega, rfl, by go_num, (by rw [HST.out]; exact congrArg (Value.int .u64) (by unfold subNxt; split <;> omega)), Lib.hid ?_, Lib.hid (HE.out.setCell (Nat.le_refl _) _)⟩
    have := HB.out.set k (.int .u32 ((subOut s x y : Nat) : Int))
    rw [words_set, HFILL.out] at this
    have key : ∀ v : Int, v = ((subOut s x y : Nat) : Int) → Blk (wr.setCell ⟨w.heap.size, k, none⟩ (.int .u32 v)) w.heap.size 126 (words (outs (subOut) (subNxt) 0 l l2 (k + 1) ++ List.replicate (n - (k + 1)) 0)) := fun v hv => by subst hv; exact this
    exact key _ (by unfold subOut; omega)
  ·obtain rfl : n = k := by omega
   have hNR : NatS w.heap.size wr (some ⟨w.heap.size, 0, none⟩) (n) (n) (outs (subOut) (subNxt) 0 l l2 (n)) := by
    have := HB.out.nat (B := w.heap.size) (Nat.le_refl _) ((small_outs (subOut) (subNxt) 0 l l2 (subOut_lt) _).append (small_replicate _)) (n) (by rw [List.length_append, length_outs]; omega) (Nat.le_refl _) (by omega)
    rwa [Nat.sub_self, List.replicate_zero, List.append_nil, List.take_of_length_le (by rw [length_outs]; omega)] at this
   clear HB
   go_wp2_with fail
   refine (r1Norm_any w.heap.size wr _ _ _ _ hNR (by omega)).mono ?_
   rintro e w3 ⟨a3, n3, c3, rfl, h3, hE3⟩
   rw [HEND.out] at h3
   have HF := Lib.hid (RNat.intro (h3.mono HE.out.size (Kept.refl _ _)) (Ext.trans HE.out hE3))
   clear h3 hE3 hNR
   go_wp2_with fail
   go_ret
   exact HF.out
set_option maxRecDepth 100000 in
set_option maxHeartbeats 1000000 in
theorem r1Add_ge (B : Nat) (w : World) (a a2 : Option Addr) (n c n2 c2 : Nat) (l l2 : Nt) (h : NatS B w a n c l) (h2 : NatS B w a2 n2 c2 l2) (hn : n ≤ 8796093022208) (hn2 : n2 ≤ 8796093022208) (hc : n2 ≤ n) (m : Nat) (hm : Hid (val l + val l2 = m)) :
  Calls Tryz.prog 149 #[.slice a n c, .slice a2 n2 c2] w (RNat w m) := by
 have HN := Lib.hid h
 have hs1 := h.small
 have hl1 := Lib.hid h.len
 have HN2 := Lib.hid h2
 have hs2 := h2.small
 have hl2 := Lib.hid h2.len
 have HEND : Hid (val (outs addOut addNxt 0 l l2 (n + 1)) = m) := Lib.hid (by rw [add_end1 hs1 hs2 (by rw [hl1.out]; omega) (by rw [hl2.out]; omega)]; exact hm.out)
 have hmk := fun w => make_words under_nat info_u32 (n + 1) (n + 1) (Nat.le_refl _) (by omega) w
 rw [show ((n + 1 : Nat) : Int) = (n : Int) + 1 from by omega] at hmk
 have hcb : decide (n < n2) = false := by simp; omega
 clear h h2 hm
 go_enter Tryz.func149, Tryz.ntmps149
 go_wp2_with fail
 go_loopg [7, 23] (n + 1) (fun q cs i wr => ∃ k : Nat, k ≤ n + 1 ∧ q = n + 1 - k ∧ i = .int .i64 (k : Int) ∧ cs = .int .u64 ((stp addNxt 0 l l2 k : Nat) : Int) ∧ Hid (Blk wr w.heap.size 126 (words (outs (addOut) (addNxt) 0 l l2 k ++ List.replicate (n + 1 - k) 0))) ∧ Hid (Ext w wr))
 case atStart => exact ⟨0, Nat.zero_le _, by omega, rfl, rfl, Lib.hid (Blk.new _ _ _), Lib.hid ((Below.refl _ _).alloc (Nat.le_refl _) _)⟩
 case round =>
  obtain ⟨k, hk, hq, rfl, rfl, HB, HE⟩ := hrel
  by_cases hkm : k < n + 1
  ·have HFILL := Lib.hid (outs_fill (addOut) (addNxt) 0 l l2 k (n + 1) hkm)
   have K1 := Lib.hid (limb_any B wr a n c l (HN.out.ext (Nat.le_refl _) HE.out) k (by omega))
   have hx := hs1.get k
   have K2 := Lib.hid (limb_any B wr a2 n2 c2 l2 (HN2.out.ext (Nat.le_refl _) HE.out) k (by omega))
   have hy := hs2.get k
   have hst := add_stp_le l l2 hs1 hs2 k
   have HST : Hid (stp addNxt 0 l l2 (k + 1) = addNxt (stp addNxt 0 l l2 k) (l[k]?.getD 0) (l2[k]?.getD 0)) := Lib.hid rfl
   have hL : (words (outs (addOut) (addNxt) 0 l l2 k ++ List.replicate (n + 1 - k) 0)).size = n + 1 := by rw [words_size, List.length_append, length_outs, List.length_replicate]; omega
   have HKC : Hid ((outs (addOut) (addNxt) 0 l l2 k ++ List.replicate (n + 1 - k) 0) = (outs (addOut) (addNxt) 0 l l2 k ++ List.replicate (n + 1 - k) 0)) := Lib.hid rfl
   generalize hLL : outs (addOut) (addNxt) 0 l l2 k ++ List.replicate (n + 1 - k) 0 = L at *
   clear hLL HKC
   generalize l[k]?.getD 0 = x at *
   generalize l2[k]?.getD 0 = y at *
   generalize stp addNxt 0 l l2 k = s at *
   have hco := HB.out.word (i := k) (by rw [words_size] at hL; omega)
   have hfr := HB.out.free k
   have hwl := HB.out.lt
   have hkc : (k : Int) < (n : Int) + 1 := by omega
   clear hL
   go_wp2_with (go_at_call 162; first | ((with_reducible refine K1.out.mono ?_); rintro e w' ⟨rfl, rfl⟩) | ((with_reducible refine K2.out.mono ?_); rintro e w' ⟨rfl, rfl⟩))
   go_roundg (n + 1 - (k + 1))
   case measure => omega
   case rel =>
    refine ⟨k + 1, by omega, rfl, by go_num, (by rw [HST.out]; exact congrArg (Value.int .u64) (by unfold addNxt; omega)), Lib.hid ?_, Lib.hid (HE.out.setCell (Nat.le_refl _) _)⟩
    have := HB.out.set k (.int .u32 ((addOut s x y : Nat) : Int))
    rw [words_set, HFILL.out] at this
    have key : ∀ v : Int, v = ((addOut s x y : Nat) : Int) → Blk (wr.setCell ⟨w.heap.size, k, none⟩ (.int .u32 v)) w.heap.size 126 (words (outs (addOut) (addNxt) 0 l l2 (k + 1) ++ List.replicate (n + 1 - (k + 1)) 0)) := fun v hv => by subst hv; exact this
    exact key _ (by unfold addOut; omega)
  ·obtain rfl : n + 1 = k := by omega
   have hNR : NatS w.heap.size wr (some ⟨w.heap.size, 0, none⟩) (n + 1) (n + 1) (outs (addOut) (addNxt) 0 l l2 (n + 1)) := by
    have := HB.out.nat (B := w.heap.size) (Nat.le_refl _) ((small_outs (addOut) (addNxt) 0 l l2 (addOut_lt) _).append (small_replicate _)) (n + 1) (by rw [List.length_append, length_outs]; omega) (Nat.le_refl _) (by omega)
    rwa [Nat.sub_self, List.replicate_zero, List.append_nil, List.take_of_length_le (by rw [length_outs]; omega)] at this
   clear HB
   go_wp2_with fail
   refine (r1Norm_any w.heap.size wr _ _ _ _ hNR (by omega)).mono ?_
   rintro e w3 ⟨a3, n3, c3, rfl, h3, hE3⟩
   rw [HEND.out] at h3
   have HF := Lib.hid (RNat.intro (h3.mono HE.out.size (Kept.refl _ _)) (Ext.trans HE.out hE3))
   clear h3 hE3 hNR
   go_wp2_with fail
   go_ret
   exact HF.out
set_option maxRecDepth 100000 in
set_option maxHeartbeats 1000000 in
theorem r1Add_lt (B : Nat) (w : World) (a a2 : Option Addr) (n c n2 c2 : Nat) (l l2 : Nt) (h : NatS B w a n c l) (h2 : NatS B w a2 n2 c2 l2) (hn : n ≤ 8796093022208) (hn2 : n2 ≤ 8796093022208) (hc : n < n2) (m : Nat) (hm : Hid (val l + val l2 = m)) :
  Calls Tryz.prog 149 #[.slice a n c, .slice a2 n2 c2] w (RNat w m) := by
 have HN := Lib.hid h
 have hs1 := h.small
 have hl1 := Lib.hid h.len
 have HN2 := Lib.hid h2
 have hs2 := h2.small
 have hl2 := Lib.hid h2.len
 have HEND : Hid (val (outs addOut addNxt 0 l l2 (n2 + 1)) = m) := Lib.hid (by rw [add_end1 hs1 hs2 (by rw [hl1.out]; omega) (by rw [hl2.out]; omega)]; exact hm.out)
 have hmk := fun w => make_words under_nat info_u32 (n2 + 1) (n2 + 1) (Nat.le_refl _) (by omega) w
 rw [show ((n2 + 1 : Nat) : Int) = (n2 : Int) + 1 from by omega] at hmk
 have hcb : decide (n < n2) = true := by simp; omega
 clear h h2 hm
 go_enter Tryz.func149, Tryz.ntmps149
 go_wp2_with fail
 go_loopg [7, 23] (n2 + 1) (fun q cs i wr => ∃ k : Nat, k ≤ n2 + 1 ∧ q = n2 + 1 - k ∧ i = .int .i64 (k : Int) ∧ cs = .int .u64 ((stp addNxt 0 l l2 k : Nat) : Int) ∧ Hid (Blk wr w.heap.size 126 (words (outs (addOut) (addNxt) 0 l l2 k ++ List.replicate (n2 + 1 - k) 0))) ∧ Hid (Ext w wr))
 case atStart => exact ⟨0, Nat.zero_le _, by omega, rfl, rfl, Lib.hid (Blk.new _ _ _), Lib.hid ((Below.refl _ _).alloc (Nat.le_refl _) _)⟩
 case round =>
  obtain ⟨k, hk, hq, rfl, rfl, HB, HE⟩ := hrel
  by_cases hkm : k < n2 + 1
  ·have HFILL := Lib.hid (outs_fill (addOut) (addNxt) 0 l l2 k (n2 + 1) hkm)
   have K1 := Lib.hid (limb_any B wr a n c l (HN.out.ext (Nat.le_refl _) HE.out) k (by omega))
   have hx := hs1.get k
   have K2 := Lib.hid (limb_any B wr a2 n2 c2 l2 (HN2.out.ext (Nat.le_refl _) HE.out) k (by omega))
   have hy := hs2.get k
   have hst := add_stp_le l l2 hs1 hs2 k
   have HST : Hid (stp addNxt 0 l l2 (k + 1) = addNxt (stp addNxt 0 l l2 k) (l[k]?.getD 0) (l2[k]?.getD 0)) := Lib.hid rfl
   have hL : (words (outs (addOut) (addNxt) 0 l l2 k ++ List.replicate (n2 + 1 - k) 0)).size = n2 + 1 := by rw [words_size, List.length_append, length_outs, List.length_replicate]; omega
   have HKC : Hid ((outs (addOut) (addNxt) 0 l l2 k ++ List.replicate (n2 + 1 - k) 0) = (outs (addOut) (addNxt) 0 l l2 k ++ List.replicate (n2 + 1 - k) 0)) := Lib.hid rfl
   generalize hLL : outs (addOut) (addNxt) 0 l l2 k ++ List.replicate (n2 + 1 - k) 0 = L at *
   clear hLL HKC
   generalize l[k]?.getD 0 = x at *
   generalize l2[k]?.getD 0 = y at *
   generalize stp addNxt 0 l l2 k = s at *
   have hco := HB.out.word (i := k) (by rw [words_size] at hL; omega)
   have hfr := HB.out.free k
   have hwl := HB.out.lt
   have hkc : (k : Int) < (n2 : Int) + 1 := by omega
   clear hL
   go_wp2_with (go_at_call 162; first | ((with_reducible refine K1.out.mono ?_); rintro e w' ⟨rfl, rfl⟩) | ((with_reducible refine K2.out.mono ?_); rintro e w' ⟨rfl, rfl⟩))
   go_roundg (n2 + 1 - (k + 1))
   case measure => omega
   case rel =>
    refine ⟨k + 1, by omega, rfl, by go_num, (by rw [HST.out]; exact congrArg (Value.int .u64) (by unfold addNxt; omega)), Lib.hid ?_, Lib.hid (HE.out.setCell (Nat.le_refl _) _)⟩
    have := HB.out.set k (.int .u32 ((addOut s x y : Nat) : Int))
    rw [words_set, HFILL.out] at this
    have key : ∀ v : Int, v = ((addOut s x y : Nat) : Int) → Blk (wr.setCell ⟨w.heap.size, k, none⟩ (.int .u32 v)) w.heap.size 126 (words (outs (addOut) (addNxt) 0 l l2 (k + 1) ++ List.replicate (n2 + 1 - (k + 1)) 0)) := fun v hv => by subst hv; exact this
    exact key _ (by unfold addOut; omega)
  ·obtain rfl : n2 + 1 = k := by omega
   have hNR : NatS w.heap.size wr (some ⟨w.heap.size, 0, none⟩) (n2 + 1) (n2 + 1) (outs (addOut) (addNxt) 0 l l2 (n2 + 1)) := by
    have := HB.out.nat (B := w.heap.size) (Nat.le_refl _) ((small_outs (addOut) (addNxt) 0 l l2 (addOut_lt) _).append (small_replicate _)) (n2 + 1) (by rw [List.length_append, length_outs]; omega) (Nat.le_refl _) (by omega)
    rwa [Nat.sub_self, List.replicate_zero, List.append_nil, List.take_of_length_le (by rw [length_outs]; omega)] at this
   clear HB
   go_wp2_with fail
   refine (r1Norm_any w.heap.size wr _ _ _ _ hNR (by omega)).mono ?_
   rintro e w3 ⟨a3, n3, c3, rfl, h3, hE3⟩
   rw [HEND.out] at h3
   have HF := Lib.hid (RNat.intro (h3.mono HE.out.size (Kept.refl _ _)) (Ext.trans HE.out hE3))
   clear h3 hE3 hNR
   go_wp2_with fail
   go_ret
   exact HF.out
theorem r1Add_any (B : Nat) (w : World) (a a2 : Option Addr) (n c n2 c2 : Nat) (l l2 : Nt) (h : NatS B w a n c l) (h2 : NatS B w a2 n2 c2 l2) (hn : n ≤ 8796093022208) (hn2 : n2 ≤ 8796093022208) (m : Nat) (hm : Hid (val l + val l2 = m)) :
  Calls Tryz.prog 149 #[.slice a n c, .slice a2 n2 c2] w (RNat w m) := by
 rcases Nat.lt_or_ge n n2 with hc | hc
 ·exact r1Add_lt B w a a2 n c n2 c2 l l2 h h2 hn hn2 hc m hm
 ·exact r1Add_ge B w a a2 n c n2 c2 l l2 h h2 hn hn2 hc m hm
set_option maxRecDepth 100000 in
set_option maxHeartbeats 1000000 in
theorem r1Small_any (B : Nat) (w : World) (a : Option Addr) (n c : Nat) (l : Nt) (h : NatS B w a n c l) (hn : n ≤ 8796093022208) (wd : Nat) (hwd : wd < 4294967296) (m : Nat) (hm : Hid (val l * wd = m)) :
  Calls Tryz.prog 164 #[.slice a n c, .int .u32 (wd : Int)] w (RNat w m) := by
 have HN := Lib.hid h
 have hs1 := h.small
 have hl1 := Lib.hid h.len
 have HEND : Hid (val (outs (smOut wd) (smNxt wd) 0 l l (n + 1)) = m) := Lib.hid (by
  have := sm_end hwd hs1 l
  rw [hl1.out] at this
  rw [this]; exact hm.out)
 have hmk := fun w => make_words under_nat info_u32 (n + 1) (n + 1) (Nat.le_refl _) (by omega) w
 rw [show ((n + 1 : Nat) : Int) = (n : Int) + 1 from by omega] at hmk
 clear h hm
 go_enter Tryz.func164, Tryz.ntmps164
 go_wp2_with fail
 go_loopg [6, 15] (n + 1) (fun q cs i wr => ∃ k : Nat, k ≤ n + 1 ∧ q = n + 1 - k ∧ i = .int .i64 (k : Int) ∧ cs = .int .u64 ((stp (smNxt wd) 0 l l k : Nat) : Int) ∧ Hid (Blk wr w.heap.size 126 (words (outs (smOut wd) (smNxt wd) 0 l l k ++ List.replicate (n + 1 - k) 0))) ∧ Hid (Ext w wr))
 case atStart => exact ⟨0, Nat.zero_le _, by omega, rfl, rfl, Lib.hid (Blk.new _ _ _), Lib.hid ((Below.refl _ _).alloc (Nat.le_refl _) _)⟩
 case round =>
  obtain ⟨k, hk, hq, rfl, rfl, HB, HE⟩ := hrel
  by_cases hkm : k < n + 1
  ·have HFILL := Lib.hid (outs_fill (smOut wd) (smNxt wd) 0 l l k (n + 1) hkm)
   have K1 := Lib.hid (limb_any B wr a n c l (HN.out.ext (Nat.le_refl _) HE.out) k (by omega))
   have hx := hs1.get k
   have hst := sm_stp_lt hwd (l2 := l) hs1 k
   have HST : Hid (stp (smNxt wd) 0 l l (k + 1) = smNxt wd (stp (smNxt wd) 0 l l k) (l[k]?.getD 0) (l[k]?.getD 0)) := Lib.hid rfl
   have hL : (words (outs (smOut wd) (smNxt wd) 0 l l k ++ List.replicate (n + 1 - k) 0)).size = n + 1 := by rw [words_size, List.length_append, length_outs, List.length_replicate]; omega
   have HKC : Hid ((outs (smOut wd) (smNxt wd) 0 l l k ++ List.replicate (n + 1 - k) 0) = (outs (smOut wd) (smNxt wd) 0 l l k ++ List.replicate (n + 1 - k) 0)) := Lib.hid rfl
   generalize hLL : outs (smOut wd) (smNxt wd) 0 l l k ++ List.replicate (n + 1 - k) 0 = L at *
   clear hLL HKC
   generalize l[k]?.getD 0 = x at *
   generalize stp (smNxt wd) 0 l l k = s at *
   have hco := HB.out.word (i := k) (by rw [words_size] at hL; omega)
   have hfr := HB.out.free k
   have hwl := HB.out.lt
   have hkc : (k : Int) < (n : Int) + 1 := by omega
   have hcc := sm_bound hx hwd hst
   have hcc0 : 0 ≤ (x : Int) * (wd : Int) := Int.mul_nonneg (by omega) (by omega)
   clear hL
   go_wp2_with (go_at_call 162; (with_reducible refine K1.out.mono ?_); rintro e w' ⟨rfl, rfl⟩)
   go_roundg (n + 1 - (k + 1))
   case measure => omega
   case rel =>
    refine ⟨k + 1, by omega, rfl, by go_num, (by rw [HST.out]; exact congrArg (Value.int .u64) (by unfold smNxt; simp only [Int.natCast_ediv, Int.natCast_add, Int.natCast_mul]; rfl)), Lib.hid ?_, Lib.hid (HE.out.setCell (Nat.le_refl _) _)⟩
    have := HB.out.set k (.int .u32 ((smOut wd s x x : Nat) : Int))
    rw [words_set, HFILL.out] at this
    have key : ∀ v : Int, v = ((smOut wd s x x : Nat) : Int) → Blk (wr.setCell ⟨w.heap.size, k, none⟩ (.int .u32 v)) w.heap.size 126 (words (outs (smOut wd) (smNxt wd) 0 l l (k + 1) ++ List.replicate (n + 1 - (k + 1)) 0)) := fun v hv => by subst hv; exact this
    exact key _ (by unfold smOut; simp only [Int.natCast_emod, Int.natCast_add, Int.natCast_mul]; rfl)
  ·obtain rfl : n + 1 = k := by omega
   have hNR : NatS w.heap.size wr (some ⟨w.heap.size, 0, none⟩) (n + 1) (n + 1) (outs (smOut wd) (smNxt wd) 0 l l (n + 1)) := by
    have := HB.out.nat (B := w.heap.size) (Nat.le_refl _) ((small_outs (smOut wd) (smNxt wd) 0 l l ((fun _ _ _ => Nat.mod_lt _ (by decide))) _).append (small_replicate _)) (n + 1) (by rw [List.length_append, length_outs]; omega) (Nat.le_refl _) (by omega)
    rwa [Nat.sub_self, List.replicate_zero, List.append_nil, List.take_of_length_le (by rw [length_outs]; omega)] at this
   clear HB
   go_wp2_with fail
   refine (r1Norm_any w.heap.size wr _ _ _ _ hNR (by omega)).mono ?_
   rintro e w3 ⟨a3, n3, c3, rfl, h3, hE3⟩
   rw [HEND.out] at h3
   have HF := Lib.hid (RNat.intro (h3.mono HE.out.size (Kept.refl _ _)) (Ext.trans HE.out hE3))
   clear h3 hE3 hNR
   go_wp2_with fail
   go_ret
   exact HF.out
set_option maxRecDepth 100000 in
set_option maxHeartbeats 1000000 in
theorem r1half_any (B : Nat) (w : World) (a : Option Addr) (n c : Nat) (l : Nt) (h : NatS B w a n c l) (hn : n ≤ 8796093022208) (m : Nat) (hm : Hid (val l / 2 = m)) :
  Calls Tryz.prog 157 #[.slice a n c] w (RNat w m) := by
 have HN := Lib.hid h
 have hs1 := h.small
 have hl1 := Lib.hid h.len
 have HEND : Hid (val (rights 1 l n) = m) := Lib.hid (by
  have := rights_end (s := 1) hs1 (by decide) (k := n) (by rw [hl1.out]; omega)
  rw [this, Nat.pow_one]; exact hm.out)
 have hmk := fun w => make_words under_nat info_u32 n n (Nat.le_refl _) (by omega) w
 clear h hm
 go_enter Tryz.func157, Tryz.ntmps157
 go_wp2_with fail
 go_loopg [10] (n) (fun q i wr => ∃ k : Nat, k ≤ n ∧ q = n - k ∧ i = .int .i64 (k : Int) ∧ Hid (Blk wr w.heap.size 126 (words (rights 1 l k ++ List.replicate (n - k) 0))) ∧ Hid (Ext w wr))
 case atStart => exact ⟨0, Nat.zero_le _, by omega, rfl, Lib.hid (Blk.new _ _ _), Lib.hid ((Below.refl _ _).alloc (Nat.le_refl _) _)⟩
 case round =>
  obtain ⟨k, hk, hq, rfl, HB, HE⟩ := hrel
  by_cases hkm : k < n
  ·have HFILL := Lib.hid (rights_fill 1 l k (n) hkm)
   have K1 := Lib.hid (limb_any B wr a n c l (HN.out.ext (Nat.le_refl _) HE.out) k (by omega))
   have hx := hs1.get k
   have K2 := Lib.hid (limb_any B wr a n c l (HN.out.ext (Nat.le_refl _) HE.out) (k + 1) (by omega))
   have hk1 : ((k + 1 : Nat) : Int) = (k : Int) + 1 := by omega
   rw [hk1] at K2
   clear hk1
   have hy := hs1.get (k + 1)
   have hL : (words (rights 1 l k ++ List.replicate (n - k) 0)).size = n := by rw [words_size, List.length_append, length_rights, List.length_replicate]; omega
   have HKC : Hid ((rights 1 l k ++ List.replicate (n - k) 0) = (rights 1 l k ++ List.replicate (n - k) 0)) := Lib.hid rfl
   generalize hLL : rights 1 l k ++ List.replicate (n - k) 0 = L at *
   clear hLL HKC
   generalize l[k]?.getD 0 = x at *
   generalize l[k + 1]?.getD 0 = y at *
   have hco := HB.out.word (i := k) (by rw [words_size] at hL; omega)
   have hfr := HB.out.free k
   have hwl := HB.out.lt
   have hkc : (k : Int) < (n : Int) := by omega
   clear hL
   go_wp2_with (go_at_call 162; first | ((with_reducible refine K1.out.mono ?_); rintro e w' ⟨rfl, rfl⟩) | ((with_reducible refine K2.out.mono ?_); rintro e w' ⟨rfl, rfl⟩))
   go_roundg (n - (k + 1))
   case measure => omega
   case rel =>
    refine ⟨k + 1, by omega, rfl, by go_num, Lib.hid ?_, Lib.hid (HE.out.setCell (Nat.le_refl _) _)⟩
    have := HB.out.set k (.int .u32 (((x + 4294967296 * y) / 2 ^ 1 % 4294967296 : Nat) : Int))
    rw [words_set, HFILL.out] at this
    have key : ∀ v : Int, v = (((x + 4294967296 * y) / 2 ^ 1 % 4294967296 : Nat) : Int) → Blk (wr.setCell ⟨w.heap.size, k, none⟩ (.int .u32 v)) w.heap.size 126 (words (rights 1 l (k + 1) ++ List.replicate (n - (k + 1)) 0)) := fun v hv => by subst hv; exact this
    exact key _ (by omega)
  ·obtain rfl : n = k := by omega
   have hNR : NatS w.heap.size wr (some ⟨w.heap.size, 0, none⟩) (n) (n) (rights 1 l (n)) := by
    have := HB.out.nat (B := w.heap.size) (Nat.le_refl _) ((small_rights 1 l _).append (small_replicate _)) (n) (by rw [List.length_append, length_rights]; omega) (Nat.le_refl _) (by omega)
    rwa [Nat.sub_self, List.replicate_zero, List.append_nil, List.take_of_length_le (by rw [length_rights]; omega)] at this
   clear HB
   go_wp2_with fail
   refine (r1Norm_any w.heap.size wr _ _ _ _ hNR (by omega)).mono ?_
   rintro e w3 ⟨a3, n3, c3, rfl, h3, hE3⟩
   rw [HEND.out] at h3
   have HF := Lib.hid (RNat.intro (h3.mono HE.out.size (Kept.refl _ _)) (Ext.trans HE.out hE3))
   clear h3 hE3 hNR
   go_wp2_with fail
   go_ret
   exact HF.out
end Go.Proofs.YtbhenelehhiakaaGreat
namespace Go.Proofs.YtbhenelehhiakaaGreat
open Go.RowKit
theorem owns_form {w : World} {base e size n : Nat} {v : Value} {xs : List Value} (h : w.ownsRow base e size v n xs) (hn : 0 < n) : ∃ g c, v = .slice (some ⟨g, 0, none⟩) n c ∧ base ≤ g := by
 rcases h.2 with ⟨h0, _⟩ | ⟨g, cap, cur, h1, h2, _⟩
 ·omega
 ·exact ⟨g, cap, h1, h2⟩
set_option maxHeartbeats 1000000 in
theorem shift_any (B : Nat) (w : World) (a : Option Addr) (n c : Nat) (l : Nt) (h : NatS B w a n c l) (hn : n ≤ 8796093022208) (wd : Nat) (hwd : wd < 4294967296) (m : Nat) (hm : Hid (wd + 4294967296 * val l = m)) :
  Calls Tryz.prog 163 #[.slice a n c, .int .u32 (wd : Int)] w (RNat w m) := by
 obtain ⟨i0, hi, hz0, hz1, hz2⟩ := info_parts info_u32
 have hEA : Ext w (w.alloc (.cells (words [wd]) 126)) := (Below.refl _ _).alloc (Nat.le_refl _) _
 have hS := NatS.src (h.ext (Nat.le_refl _) hEA)
 have hsm := Lib.hid h.small
 have hlen := Lib.hid h.len
 have hown := owns_of_blk (base := w.heap.size) (n := 1) (c := 1) (l := [wd]) (m := []) (Blk.new w 126 (words [wd])) (Nat.le_refl _) rfl rfl (by omega)
 have HOWN := Lib.hid hown
 have HS := Lib.hid hS
 clear hS hown h
 go_enter Tryz.func163, Tryz.ntmps163
 go_wp2_with (at_builtin; refine wpList_append_src rfl (.tmp 6) (.tmp 7) 23 rfl w.heap.size 126 i0 _ 1 4 under_nat hi hz0 hz1 hz2 rfl (by decide) (.slice (some ⟨w.heap.size, 0, none⟩) 1 1) 1 _ rfl HOWN.out a n c _ rfl HS.out.1 (by rw [List.length_map, hlen.out, Nat.mul_one]) HS.out.2 (by simp [Value.oneCell']) (by unfold maxLen; omega) (by omega) hEA.size ?_; intro v' w1 hown' hgrow hat)
 obtain ⟨g, cc, rfl, hg⟩ := owns_form hown' (by omega)
 have hE1 : Ext w w1 := hEA.grown hgrow hEA.size (fun k e => by cases e; exact Nat.le_refl _)
 have hNS : NatS w.heap.size w1 (some ⟨g, 0, none⟩) (1 + n) cc (wd :: l) := natS_of_owns (by simpa using hown') (small_cons hwd hsm.out)
 have hv : val (wd :: l) = m := by rw [val]; exact hm.out
 clear hown' hgrow hat hEA
 go_wp2_with fail
 refine (r1Norm_any w.heap.size w1 _ _ _ _ hNS (by omega)).mono ?_
 rintro e w3 ⟨a3, n3, c3, rfl, h3, hE3⟩
 rw [hv] at h3
 have HF := Lib.hid (RNat.intro (h3.mono hE1.size (Kept.refl _ _)) (Ext.trans hE1 hE3))
 clear h3 hE3 hNS hv hE1
 go_wp2_with fail
 go_ret
 exact HF.out
theorem mul_top {y : Nat} {j : Nat} (X : Nat) (L : List Nat) (hL : limbs y = L) : 4294967296 * (X * (y / 4294967296 ^ (j + 1))) + X * (L[j]?.getD 0) = X * (y / 4294967296 ^ j) := by
 subst hL
 have := val_div_step (small_limbs y) j
 rw [val_limbs] at this
 rw [this, Nat.mul_add, Nat.mul_left_comm, Nat.add_comm]
set_option maxRecDepth 100000 in
set_option maxHeartbeats 2000000 in
theorem r1Mul_any (B : Nat) (w : World) (a a2 : Option Addr) (n c n2 c2 : Nat) (l l2 : Nt) (h : NatS B w a n c l) (h2 : NatS B w a2 n2 c2 l2) (hn : n ≤ 4398046511104) (hn2 : n2 ≤ 4398046511104) (x y : Nat) (hx : Hid (val l = x)) (hy : Hid (val l2 = y)) :
  Calls Tryz.prog 152 #[.slice a n c, .slice a2 n2 c2] w (RNat w (x * y)) := by
 go_enter Tryz.func152, Tryz.ntmps152
 go_wp2_with fail
 refine (r1Norm_any B w a n c l h (by omega)).mono ?_
 rintro e w1 ⟨a3, n3, c3, rfl, h3, hE1⟩
 go_wp2_with fail
 refine (r1Norm_any B w1 a2 n2 c2 l2 (h2.ext (Nat.le_refl _) hE1) (by omega)).mono ?_
 rintro e w2 ⟨a4, n4, c4, rfl, h4, hE2⟩
 have h3 := h3.ext (Nat.le_refl _) hE2
 have hE := Ext.trans hE1 hE2
 have hn3 : n3 ≤ n := by have := h3.len; have := nl_val h.small; have := h.len; rw [length_limbs] at *; omega
 have hn4 : n4 ≤ n2 := by have := h4.len; have := nl_val h2.small; have := h2.len; rw [length_limbs] at *; omega
 rw [hx.out] at h3
 rw [hy.out] at h4
 have hmost := h4.most
 have hcap := h4.cap
 have hl3 := Lib.hid h3.len
 have hl4 := Lib.hid h4.len
 have H3 := Lib.hid h3
 have H4 := Lib.hid h4
 have HE := Lib.hid hE
 have hs4 := small_limbs y
 clear h h2 h3 h4 hE1 hE2 hx hy hE
 generalize hLL : limbs y = L at hl4 H4 hs4
 have HLL := Lib.hid hLL
 clear hLL
 go_wp2_with fail
 go_loopg [5, 6] n4 (fun q vo vi wr => ∃ (j : Nat) (ao : Option Addr) (no co : Nat) (z : Int), j ≤ n4 ∧ q = j ∧ vi = .int .i64 z ∧ z = (j : Int) - 1 ∧ vo = .slice ao no co ∧ no ≤ n3 + n4 ∧ Hid (NatS 0 wr ao no co (limbs (x * (y / 4294967296 ^ j)))) ∧ Hid (Ext w2 wr))
 case atStart =>
  refine ⟨n4, none, 0, 0, _, Nat.le_refl _, rfl, rfl, rfl, rfl, by omega, Lib.hid ?_, Lib.hid (Ext.refl _)⟩
  rw [digit_above y (by rw [← length_limbs, HLL.out, hl4.out]; exact Nat.le_refl _), Nat.mul_zero]
  exact natS_nil _ _
 case round =>
  obtain ⟨j, ao, no, co, z, hj, hq, rfl, hz, rfl, hno, HO, HEr⟩ := hrel
  by_cases hj0 : j = 0
  ·subst hj0
   obtain rfl : z = -1 := by omega
   have hO := HO.out
   rw [Nat.pow_zero, Nat.div_one] at hO
   clear hz HO
   go_wp2_with fail
   refine (r1Norm_any 0 wr _ _ _ _ hO (by omega)).mono ?_
   rintro e w5 ⟨a5, n5, c5, rfl, h5, hE5⟩
   rw [val_limbs] at h5
   have hE6 := Ext.trans HE.out HEr.out
   have HF := Lib.hid (RNat.intro (h5.mono hE6.size (Kept.refl _ _)) (Ext.trans hE6 hE5))
   clear h5 hE5 hE6 hO
   go_wp2_with fail
   go_ret
   exact HF.out
  ·obtain ⟨i, rfl⟩ : ∃ i, j = i + 1 := ⟨j - 1, by omega⟩
   obtain rfl : z = (i : Int) := by omega
   clear hz hj0
   obtain ⟨b4, o4, rfl, hb4, hc4⟩ := H4.out.at' (k := i) (by omega)
   have hc := (HEr.out.cell (p := ⟨b4, o4 + i, none⟩) hb4).trans hc4
   have HT := Lib.hid (mul_top (j := i) x L HLL.out)
   have hd := hs4.get i
   clear hc4
   generalize L[i]?.getD 0 = d at *
   have hO := HO.out
   have hl5 := hO.len
   rw [length_limbs] at hl5
   have hnl1 : nl (x * (y / 4294967296 ^ i)) ≤ n3 + n4 := by
    have h1 : x * (y / 4294967296 ^ i) ≤ x * y := Nat.mul_le_mul_left _ (Nat.div_le_self _ _)
    have h2 := nl_mono h1
    have h3 := nl_mul x y
    have e3 : nl x = n3 := hl3.out
    have e4 : nl y = n4 := by rw [← length_limbs, HLL.out, hl4.out]
    omega
   have h3 := (H3.out.ext (Nat.zero_le _) HEr.out)
   have hE0 := Ext.refl wr
   have hik : (i : Int) < (n4 : Int) := by omega
   have HV1 : Hid (0 + 4294967296 * val (limbs (x * (y / 4294967296 ^ (i + 1)))) = 4294967296 * (x * (y / 4294967296 ^ (i + 1)))) := Lib.hid (by rw [val_limbs, Nat.zero_add])
   have HV2 : Hid (val (limbs x) * d = x * d) := Lib.hid (by rw [val_limbs])
   have hnl5 : nl (4294967296 * (x * (y / 4294967296 ^ (i + 1)))) ≤ n3 + n4 := Nat.le_trans (nl_mono (by rw [← HT.out]; exact Nat.le_add_right _ _)) hnl1
   have hnl6 : nl (x * d) ≤ n3 + n4 := Nat.le_trans (nl_mono (by rw [← HT.out]; exact Nat.le_add_left _ _)) hnl1
   clear hl5 HO
   generalize x * (y / 4294967296 ^ (i + 1)) = P1 at *
   generalize hP0 : x * (y / 4294967296 ^ i) = P0 at *
   have HP0 := Lib.hid hP0
   clear hP0
   go_wp2_with fail
   have HEd := Lib.hid ((Below.refl _ _).drew : Ext wr wr.drew)
   have hO := hO.ext (Nat.zero_le _) HEd.out
   have h3 := h3.ext (Nat.zero_le _) HEd.out
   have hE0 := HEd.out
   go_region_held3 (fun w' => w'.cell? ⟨b4, o4 + i, none⟩ = some (.int .u32 (d : Int))) (first | exact hc | go_keep)
    (first | (go_at_call 163; refine (shift_any 0 _ _ _ _ _ hO (by omega) 0 (by omega) _ HV1).mono ?_; rintro e w5 ⟨a5, n5, c5, rfl, h5, hE5⟩; replace h5 := h5.mono (Nat.zero_le _) (Kept.refl _ _); replace hc := (hE5.cell (p := ⟨b4, o4 + i, none⟩) (Nat.lt_of_lt_of_le hb4 (Nat.le_trans HEr.out.size hE0.size))).trans hc; replace h3 := h3.ext (Nat.zero_le _) hE5; (try replace h6 := h6.ext (Nat.zero_le _) hE5); replace hE0 := Ext.trans hE0 hE5)
           | (go_at_call 164; refine (r1Small_any 0 _ _ _ _ _ h3 (by omega) d hd _ HV2).mono ?_; rintro e w6 ⟨a6, n6, c6, rfl, h6, hE6⟩; replace h6 := h6.mono (Nat.zero_le _) (Kept.refl _ _); replace hc := (hE6.cell (p := ⟨b4, o4 + i, none⟩) (Nat.lt_of_lt_of_le hb4 (Nat.le_trans HEr.out.size hE0.size))).trans hc; (try replace h5 := h5.ext (Nat.zero_le _) hE6); (try replace hO := hO.ext (Nat.zero_le _) hE6); replace hE0 := Ext.trans hE0 hE6)
           | (go_at_call 149; refine (r1Add_any 0 _ _ _ _ _ _ _ _ _ h5 h6 (by have := h5.len; rw [length_limbs] at this; omega) (by have := h6.len; rw [length_limbs] at this; omega) P0 (Lib.hid (by rw [val_limbs, val_limbs]; exact HT.out))).mono ?_; rintro e w7 ⟨a7, n7, c7, rfl, h7, hE7⟩; replace hc := (hE7.cell (p := ⟨b4, o4 + i, none⟩) (Nat.lt_of_lt_of_le hb4 (Nat.le_trans HEr.out.size hE0.size))).trans hc; replace h7 := h7.mono (Nat.zero_le _) (Kept.refl _ _); replace hE0 := Ext.trans hE0 hE7; have hl7 := h7.len; rw [length_limbs] at hl7))
   all_goals
    have H7 := Lib.hid h7
    have HE7 := Lib.hid (Ext.trans HEr.out hE0)
    clear h7 hE0 h3 h5 h6
    go_wp2_with fail
    go_roundg i
    case measure => omega
    case rel => exact ⟨i, a7, n7, c7, _, by omega, rfl, rfl, rfl, rfl, by omega, by rw [HP0.out]; exact H7, HE7⟩
end Go.Proofs.YtbhenelehhiakaaGreat
namespace Go.Proofs.YtbhenelehhiakaaGreat
open Go.RowKit
theorem natS_of_owns' {w : World} {base n : Nat} {E : TypeId} {v : Value} {l : List Nat} (h : w.ownsRow base E 1 v n (l.map fun x : Nat => Value.int .u32 (x : Int))) (hs : Small l) : ∃ a c, v = .slice a n c ∧ NatS base w a n c l := by
 have hl : l.length = n := by simpa using h.1
 rcases Nat.eq_zero_or_pos n with h0 | h0
 ·subst h0
  obtain rfl : l = [] := List.eq_nil_of_length_eq_zero hl
  rcases h.2 with ⟨hv, _⟩ | ⟨g, cap, cur, hv, h2, h3, h4, h5, _⟩
  ·exact ⟨none, 0, hv, natS_nil _ _⟩
  ·exact ⟨_, cap, hv, rfl, Nat.zero_le _, by unfold maxLen at h5; omega, fun e => (by cases e), fun i hi => absurd hi (by simp)⟩
 ·obtain ⟨g, c, rfl, _⟩ := owns_form h h0
  exact ⟨_, c, rfl, natS_of_owns h hs⟩
theorem shl_cast {r : Nat} (hr : r < 32) : ((2 : Int) ^ r % 4294967296) = ((2 ^ r : Nat) : Int) := by
 have h5 := pow_s_le hr
 have h7 : ((2 ^ r : Nat) : Int) = (2 : Int) ^ r := by rw [Int.natCast_pow]; rfl
 rw [← h7]
 generalize 2 ^ r = p at *
 omega
set_option maxRecDepth 100000 in
set_option maxHeartbeats 1000000 in
theorem r1Left_any (B : Nat) (w : World) (a : Option Addr) (n c : Nat) (l : Nt) (h : NatS B w a n c l) (hn : n ≤ 1099511627776) (s : Nat) (hs : s ≤ 70368744177664) (m : Nat) (hm : Hid (val l * 2 ^ s = m)) :
  Calls Tryz.prog 158 #[.slice a n c, .int .i64 (s : Int)] w (RNat w m) := by
 obtain ⟨i0, hi, hz0, hz1, hz2⟩ := info_parts info_u32
 have hq : s / 32 ≤ 2199023255552 := by omega
 have hr : s % 32 < 32 := Nat.mod_lt _ (by decide)
 have hs1 : (s : Int) / 32 = ((s / 32 : Nat) : Int) := by omega
 have hs2 : (s : Int) % 32 = ((s % 32 : Nat) : Int) := by omega
 have HQ : Hid (4294967296 ^ (s / 32) * 2 ^ (s % 32) = 2 ^ s) := Lib.hid (by
  have : (4294967296 : Nat) = 2 ^ 32 := by decide
  rw [this, ← Nat.pow_mul, ← Nat.pow_add, Nat.div_add_mod])
 generalize s / 32 = q at *
 generalize s % 32 = r at *
 have hmk := fun w => make_words under_nat info_u32 q q (Nat.le_refl _) (by omega) w
 have hwr : IntKind.i64.wrap (q : Int) = (q : Int) := IntWalk.i64_in _ (by omega)
 have HN := Lib.hid h
 clear h
 go_enter Tryz.func158, Tryz.ntmps158
 go_wp2_with fail
 have hE0 := ((Below.refl _ _).drew : Ext w w.drew)
 go_region_held3 (fun _ => True) (trivial)
  (first | (go_at_call 139; refine (r1Norm_any B _ _ _ _ _ (HN.out.ext (Nat.le_refl _) (by first | exact hE0 | exact (Below.alloc hE0 hE0.size _))) (by omega)).mono ?_; rintro e w1 ⟨a1, n1, c1, rfl, h1, hE1⟩; have hn1 : n1 ≤ n := (by have h5 := h1.len; rw [length_limbs] at h5; have := nl_val HN.out.small; have := HN.out.len; omega))
         | (refine step_append_src rfl (.tmp 8) (.tmp 10) 23 rfl w.heap.size 126 i0 _ 1 4 under_nat hi hz0 hz1 hz2 rfl (by decide) _ q _ rfl (owns_of_blk (l := List.replicate q 0) (m := []) (c := q) (by rw [List.append_nil]; first | exact Blk.new _ _ _ | exact Blk.ext (w := (World.alloc _ _).drew) (Blk.new _ _ _) hE1) (by first | exact Nat.le_refl _ | exact hE1.size) (by simp) (by simp) (by omega)) _ _ _ _ rfl (NatS.src (by first | exact h1 | exact h1.ext (Nat.le_refl _) ((Below.refl _ _).alloc (Nat.le_refl _) _))).1 (by rw [List.length_map, Nat.mul_one]; exact h1.len) (NatS.src (by first | exact h1 | exact h1.ext (Nat.le_refl _) ((Below.refl _ _).alloc (Nat.le_refl _) _))).2 (by simp [Value.oneCell']) (by unfold maxLen; omega) (by omega) (by have := hE1.size; simp at this ⊢; omega) ?_; intro v' w2 hown' hgrow hat))
 all_goals
  have hE2 : Ext w w2 := by
   first
   | exact (Below.trans (((Below.refl _ _).alloc (Nat.le_refl _) _).drew) (hE1.mono (by simp))).grown hgrow (by have := hE1.size; simp at this ⊢; omega) (fun k e => by cases e; exact Nat.le_refl _)
   | exact ((Below.trans hE0 hE1).alloc (by have := hE1.size; simpa using this) _).grown hgrow (by have := hE1.size; simp at this ⊢; omega) (fun k e => by cases e; exact hE1.size)
  obtain ⟨a2, c2, rfl, h2⟩ := natS_of_owns' (l := List.replicate q 0 ++ limbs (val l)) (by rw [List.map_append]; exact hown') ((small_replicate _).append (small_limbs _))
  have hv : val (List.replicate q 0 ++ limbs (val l)) * 2 ^ r = m := by
   rw [val_append, val_replicate, val_limbs, List.length_replicate, Nat.zero_add, Nat.mul_right_comm, HQ.out, Nat.mul_comm]; exact hm.out
  have HV := Lib.hid hv
  have H2 := Lib.hid h2
  have HE := Lib.hid hE2
  clear hown' hgrow hat hE1 hE2 h1 h2 hv
  have e2 := shl_cast hr
  have HE2 := Lib.hid e2
  clear e2
  go_wp2_with fail
  rw [HE2.out]
  refine (r1Small_any w.heap.size w2 _ _ _ _ H2.out (by omega) (2 ^ r) (by have := pow_s_le hr; omega) m HV).mono ?_
  rintro e w3 ⟨a3, n3, c3, rfl, h3, hE3⟩
  have HF := Lib.hid (RNat.intro (h3.mono HE.out.size (Kept.refl _ _)) (Ext.trans HE.out hE3))
  clear h3 hE3
  go_wp2_with fail
  go_ret
  exact HF.out
end Go.Proofs.YtbhenelehhiakaaGreat
namespace Go.Proofs.YtbhenelehhiakaaGreat
open Go.RowKit
def ival (b : Bool) (l : Nt) : Int := if b then -(val l : Int) else (val l : Int)
def RInt (w : World) (z : Int) (e : Ending) (w' : World) : Prop := ∃ a n c, e = .returned (.agg #[.bool (decide (z < 0)), .slice a n c]) ∧ NatS w.heap.size w' a n c (limbs z.natAbs) ∧ Ext w w'
theorem ival_neg {b : Bool} {l : Nt} {z : Int} (h : ival b l = z) : z.natAbs = val l := by
 subst h; unfold ival; split <;> simp
set_option maxHeartbeats 400000 in
theorem make1_any (b : Bool) (a : Option Addr) (n c : Nat) (w : World) :
  Calls Tryz.prog 106 #[.bool b, .slice a n c] w fun e w' => e = .returned (.agg #[.bool (b && decide (0 < n)), .slice a n c]) ∧ Ext w w' := by
 cases b
 ·go_enter Tryz.func106, Tryz.ntmps106
  go_wp2
  exact bodyPost_ret (v := .agg #[.bool false, .slice a n c]) (by simp [results, Tryz.results106, go_sem]) rfl ⟨rfl, (Below.refl _ _).alloc (Nat.le_refl _) _⟩
 ·go_enter Tryz.func106, Tryz.ntmps106
  go_wp2
  exact bodyPost_ret (v := .agg #[.bool (decide (0 < n)), .slice a n c]) (by simp [results, Tryz.results106, go_sem]) rfl ⟨by simp, (Below.refl _ _).alloc (Nat.le_refl _) _⟩
theorem kept_set {B b : Nat} (w : World) (i : Nat) (v : Value) (hb : b < B) : Kept B w (w.setCell ⟨b, i, none⟩ v) := fun b2 o u hc => by
 have hne : b2 ≠ b := by have := hc.ge; omega
 exact ⟨hc.ge, (World.cell?_setCell_far _ _ _ _ (fun e => hne e.symm)).trans hc.cell, by rw [World.frozen?_setCell]; exact hc.free⟩
theorem ival_of (s : Bool) (m : Nat) : (if s then -(m : Int) else (m : Int)).natAbs = m := by cases s <;> simp
theorem ival_sgn (s : Bool) (m n : Nat) (hn : (limbs m).length = n) : (s && decide (0 < n)) = decide ((if s then -(m : Int) else (m : Int)) < 0) := by
 rw [length_limbs] at hn
 cases s
 ·simp
 ·by_cases h : m = 0
  ·subst h; rw [nl_zero] at hn; subst hn; simp
  ·have := nl_pos (Nat.pos_of_ne_zero h)
   rw [decide_eq_true (by omega)]; simp; omega
theorem RInt.mk {w w2 : World} {B m n c : Nat} {a : Option Addr} {b s : Bool} {z : Int} (hE : Ext w w2) (hB : w.heap.size ≤ B) (h : NatS B w2 a n c (limbs m)) (hz : z = if s then -(m : Int) else (m : Int)) (hb : b = (s && decide (0 < n))) :
  RInt w z (.returned (.agg #[.bool b, .slice a n c])) w2 := by
 subst hz; subst hb
 refine ⟨a, n, c, by rw [ival_sgn s m n h.len], ?_, hE⟩
 rw [ival_of]
 exact h.mono hB (Kept.refl _ _)
theorem RInt.box {w w2 : World} {B m n c r : Nat} {a : Option Addr} {b s : Bool} {z : Int} {u v : Value} (hr : w.heap.size ≤ r) (hrB : r < B) (hE : Ext w w2) (h : NatS B w2 a n c (limbs m)) (hz : z = if s then -(m : Int) else (m : Int)) (hb : b = (s && decide (0 < n))) :
  RInt w z (.returned (.agg #[.bool b, .slice a n c])) ((w2.setCell ⟨r, 0, none⟩ u).setCell ⟨r, 1, none⟩ v) :=
 RInt.mk (Below.setCell (Below.setCell hE (p := ⟨r, 0, none⟩) hr u) (p := ⟨r, 1, none⟩) hr v) (B := B) (by omega) (h.mono (Nat.le_refl _) (Kept.trans (kept_set _ _ _ hrB) (kept_set _ _ _ hrB))) hz hb
theorem mul_sgn (b b2 : Bool) (l l2 : Nt) : ival b l * ival b2 l2 = if (!b == b2) then -((val l * val l2 : Nat) : Int) else ((val l * val l2 : Nat) : Int) := by
 cases b <;> cases b2 <;> simp [ival, Int.neg_mul, Int.mul_neg]
set_option maxHeartbeats 1000000 in
theorem zintMul_any (b b2 : Bool) (B : Nat) (w : World) (a a2 : Option Addr) (n c n2 c2 : Nat) (l l2 : Nt) (h : NatS B w a n c l) (h2 : NatS B w a2 n2 c2 l2) (hn : n ≤ 8796093022208) (hn2 : n2 ≤ 8796093022208) :
  Calls Tryz.prog 71 #[.agg #[.bool b, .slice a n c], .agg #[.bool b2, .slice a2 n2 c2]] w (RInt w (ival b l * ival b2 l2)) := by
 go_enter Tryz.func71, Tryz.ntmps71
 go_wp2_with fail
 have p0 := Blk.new w 25 #[.bool b, .slice a n c]
 have p1 := Blk.new (w.alloc (Obj.cells #[.bool b, .slice a n c] 25)) 25 #[.bool b2, .slice a2 n2 c2]
 replace p0 := p0.ext ((Below.refl _ _).alloc (Nat.le_refl _) (Obj.cells #[.bool b2, .slice a2 n2 c2] 25))
 have r := Blk.new ((w.alloc (Obj.cells #[.bool b, .slice a n c] 25)).alloc (Obj.cells #[.bool b2, .slice a2 n2 c2] 25)) 25 #[.bool false, .slice none 0 0]
 replace p0 := p0.ext ((Below.refl _ _).alloc (Nat.le_refl _) (Obj.cells #[.bool false, .slice none 0 0] 25))
 replace p1 := p1.ext ((Below.refl _ _).alloc (Nat.le_refl _) (Obj.cells #[.bool false, .slice none 0 0] 25))
 have hEW : Ext w (((w.alloc (Obj.cells #[.bool b, .slice a n c] 25)).alloc (Obj.cells #[.bool b2, .slice a2 n2 c2] 25)).alloc (Obj.cells #[.bool false, .slice none 0 0] 25)) := ((((Below.refl _ w).alloc (by simp) _).alloc (by simp) _).alloc (by simp; omega) _)
 generalize hgW : ((w.alloc (Obj.cells #[.bool b, .slice a n c] 25)).alloc (Obj.cells #[.bool b2, .slice a2 n2 c2] 25)).alloc (Obj.cells #[.bool false, .slice none 0 0] 25) = W at *
 clear hgW
 simp only [World.size_alloc] at p1 r
 have p0_ne_p1 : ¬ w.heap.size = w.heap.size + 1 := by omega
 have p0_ne_r : ¬ w.heap.size = w.heap.size + 1 + 1 := by omega
 have p1_ne_p0 : ¬ w.heap.size + 1 = w.heap.size := by omega
 have p1_ne_r : ¬ w.heap.size + 1 = w.heap.size + 1 + 1 := by omega
 have r_ne_p0 : ¬ w.heap.size + 1 + 1 = w.heap.size := by omega
 have r_ne_p1 : ¬ w.heap.size + 1 + 1 = w.heap.size + 1 := by omega
 replace p0_0 := p0.cell (i := 0) rfl
 replace p0_1 := p0.cell (i := 1) rfl
 replace p1_0 := p1.cell (i := 0) rfl
 replace p1_1 := p1.cell (i := 1) rfl
 replace r_0 := r.cell (i := 0) rfl
 replace r_1 := r.cell (i := 1) rfl
 replace r_f0 := r.free 0
 replace r_f1 := r.free 1
 replace r_lt := r.lt
 have hd : Ext W W.drew := (Below.refl _ _).drew
 have hrB := Nat.lt_of_lt_of_le r_lt hd.size
 have h1 := (h.ext (Nat.le_refl _) hEW).ext (Nat.le_refl _) hd
 have h2 := (h2.ext (Nat.le_refl _) hEW).ext (Nat.le_refl _) hd
 go_region_held3 (fun w' => w'.cell? ⟨w.heap.size, 0, none⟩ = some (.bool b) ∧ w'.cell? ⟨w.heap.size, 1, none⟩ = some (.slice a n c) ∧ w'.cell? ⟨w.heap.size + 1, 0, none⟩ = some (.bool b2) ∧ w'.cell? ⟨w.heap.size + 1, 1, none⟩ = some (.slice a2 n2 c2)) (first | exact ⟨p0_0, p0_1, p1_0, p1_1⟩ | go_keep)
  (first | (go_at_call 115; refine (natMul_any B _ _ _ _ _ _ _ l l2 h1 h2 hn hn2).mono ?_; rintro e w1 ⟨a3, n3, c3, rfl, h3, hE1⟩; have hE1 : Ext W w1 := Ext.trans hd hE1; replace p0 := p0.ext hE1; replace p0_0 := p0.cell (i := 0) rfl; replace p0_1 := p0.cell (i := 1) rfl; replace p1 := p1.ext hE1; replace p1_0 := p1.cell (i := 0) rfl; replace p1_1 := p1.cell (i := 1) rfl; replace r := r.ext hE1; replace r_0 := r.cell (i := 0) rfl; replace r_1 := r.cell (i := 1) rfl; replace r_f0 := r.free 0; replace r_f1 := r.free 1; replace r_lt := r.lt)
         | (go_at_call 106; refine (make1_any _ _ _ _ _).mono ?_; rintro e w2 ⟨rfl, hE2⟩; replace p0 := p0.ext hE2; replace p0_0 := p0.cell (i := 0) rfl; replace p0_1 := p0.cell (i := 1) rfl; replace p1 := p1.ext hE2; replace p1_0 := p1.cell (i := 0) rfl; replace p1_1 := p1.cell (i := 1) rfl; replace r := r.ext hE2; replace r_0 := r.cell (i := 0) rfl; replace r_1 := r.cell (i := 1) rfl; replace r_f0 := r.free 0; replace r_f1 := r.free 1; replace r_lt := r.lt))
 have HF := Lib.hid (RInt.box (w := w) (w2 := w2) (r := w.heap.size + 1 + 1) (u := .bool (!b == b2 && decide (0 < n3))) (v := .slice a3 n3 c3) (by omega) hrB (Ext.trans hEW (Ext.trans hE1 hE2)) (h3.ext (Nat.le_refl _) hE2) (mul_sgn b b2 l l2) rfl)
 clear h1 h2 hE1 hE2 h3 hEW
 generalize hg : (!b == b2 && decide (0 < n3)) = b3 at *
 clear hg
 have r2 : Blk (((w2).setCell ⟨w.heap.size + 1 + 1, 0, none⟩ (.bool b3)).setCell ⟨w.heap.size + 1 + 1, 1, none⟩ (.slice a3 n3 c3)) _ _ #[.bool b3, .slice a3 n3 c3] := ((r).set 0 (.bool b3)).set 1 (.slice a3 n3 c3)
 generalize ((w2).setCell ⟨w.heap.size + 1 + 1, 0, none⟩ (.bool b3)).setCell ⟨w.heap.size + 1 + 1, 1, none⟩ (.slice a3 n3 c3) = W3 at *
 have hr0 := r2.cell (i := 0) rfl
 have hr1 := r2.cell (i := 1) rfl
 go_wp2_with fail
 exact bodyPost_ret (v := .agg #[.bool b3, .slice a3 n3 c3]) (by simp [results, Tryz.results71, go_sem, hr0, hr1]) rfl HF.out
end Go.Proofs.YtbhenelehhiakaaGreat
namespace Go.Proofs.YtbhenelehhiakaaGreat
open Go.RowKit
theorem bit_fit {q t : Nat} (hq : q < 4294967296) (ht : t < 32) : q / 2 ^ (t + 1) * 2 ^ (t + 1) + 2 ^ t < 4294967296 := by
 have e : (4294967296 : Nat) = 2 ^ (32 - (t + 1)) * 2 ^ (t + 1) := by
  rw [← Nat.pow_add, show 32 - (t + 1) + (t + 1) = 32 by omega]
 have h1 : q / 2 ^ (t + 1) < 2 ^ (32 - (t + 1)) := Nat.div_lt_of_lt_mul (by rw [Nat.mul_comm, ← e]; exact hq)
 have h2 : (q / 2 ^ (t + 1) + 1) * 2 ^ (t + 1) ≤ 2 ^ (32 - (t + 1)) * 2 ^ (t + 1) := Nat.mul_le_mul_right _ h1
 rw [← e, Nat.add_mul, Nat.one_mul] at h2
 have h3 : 2 ^ t < 2 ^ (t + 1) := Nat.pow_lt_pow_right (by decide) (by omega)
 omega
theorem bit_or {dd t : Nat} (ht : t < 32) (h1 : dd + 2 ^ t < 4294967296) (h2 : dd % 2 ^ (t + 1) = 0) : bits .or .u32 (dd : Int) ((2 : Int) ^ t % 4294967296) = ((dd + 2 ^ t : Nat) : Int) := by
 rw [shl_cast ht, u32_or_nat _ _ (by omega) (by have := pow_s_le ht; omega), nat_join (t + 1) dd (2 ^ t) h2 (Nat.pow_lt_pow_right (by decide) (by omega))]
def RDiv2 (w : World) (q r : Nat) (e : Ending) (w' : World) : Prop := ∃ a n c a2 n2 c2, e = .returned (.tuple #[.slice a n c, .slice a2 n2 c2]) ∧ NatS w.heap.size w' a n c (limbs q) ∧ NatS w.heap.size w' a2 n2 c2 (limbs r) ∧ Ext w w'
theorem le_cmpI {a b : Nat} (h : a ≤ b) : decide (cmpI a b ≤ 0) = true := by
 rcases Nat.lt_or_ge a b with h1 | h1
 ·rw [cmpI_lt h1]; rfl
 ·rw [cmpI_eq (by omega)]; rfl
theorem gt_cmpI {a b : Nat} (h : b < a) : decide (cmpI a b ≤ 0) = false := by rw [cmpI_gt h]; rfl
set_option maxRecDepth 100000 in
set_option maxHeartbeats 4000000 in
theorem r1Div_any (B : Nat) (w : World) (a a2 : Option Addr) (n c n2 c2 : Nat) (l l2 : Nt) (h : NatS B w a n c l) (h2 : NatS B w a2 n2 c2 l2) (hn : n ≤ 4398046511104) (hn2 : n2 ≤ 4398046511104) (x y : Nat) (hx : Hid (val l = x)) (hy : Hid (val l2 = y)) (hy0 : 0 < y) :
  Calls Tryz.prog 159 #[.slice a n c, .slice a2 n2 c2] w (RDiv2 w (x / y) (x % y)) := by
 go_enter Tryz.func159, Tryz.ntmps159
 go_wp2_with fail
 refine (r1Norm_any B w a n c l h (by omega)).mono ?_
 rintro e w1 ⟨a3, n3, c3, rfl, h3, hE1⟩
 go_wp2_with fail
 refine (r1Norm_any B w1 a2 n2 c2 l2 (h2.ext (Nat.le_refl _) hE1) (by omega)).mono ?_
 rintro e w2 ⟨a4, n4, c4, rfl, h4, hE2⟩
 have h3 := h3.ext (Nat.le_refl _) hE2
 have hE := Ext.trans hE1 hE2
 have hn3 : n3 ≤ n := by have := h3.len; have := nl_val h.small; have := h.len; rw [length_limbs] at *; omega
 have hn4 : n4 ≤ n2 := by have := h4.len; have := nl_val h2.small; have := h2.len; rw [length_limbs] at *; omega
 rw [hx.out] at h3
 rw [hy.out] at h4
 have hmost := h3.most
 have hcap := h3.cap
 have hl3 : Hid (nl x = n3) := Lib.hid h3.len
 have hl4 : Hid (nl y = n4) := Lib.hid h4.len
 have H3 := Lib.hid h3
 have H4 := Lib.hid (h4.mono (Nat.zero_le _) (Kept.refl _ _))
 have HE := Lib.hid hE
 have hEs := hE.size
 have hs3 := small_limbs x
 have HVY := Lib.hid (val_limbs y)
 have hmk := fun w => make_words under_nat info_u32 n3 n3 (Nat.le_refl _) (by omega) w
 clear h h2 h3 h4 hE1 hE2 hx hy hE
 generalize hLL : limbs x = L at H3 hs3
 have HLL := Lib.hid hLL
 clear hLL
 go_wp2_with fail
 go_loopg [7, 8] n3 (fun q vr vi wr => ∃ (j : Nat) (ar : Option Addr) (nr cr : Nat) (z : Int), j ≤ n3 ∧ q = j ∧ vi = .int .i64 z ∧ z = (j : Int) - 1 ∧ vr = .slice ar nr cr ∧ nr ≤ n4 ∧ Hid (NatS (w2.heap.size + 1) wr ar nr cr (limbs (x / 4294967296 ^ j % y))) ∧
  Hid (∃ Q : List Nat, Blk wr w2.heap.size 126 (words (List.replicate j 0 ++ Q)) ∧ Q.length + j = n3 ∧ Small Q ∧ val Q = x / 4294967296 ^ j / y) ∧ Hid (Ext w2 wr))
 case atStart =>
  refine ⟨n3, none, 0, 0, _, Nat.le_refl _, rfl, rfl, rfl, rfl, by omega, Lib.hid ?_, Lib.hid ⟨[], ?_, by simp, small_nil, ?_⟩, Lib.hid ((Below.refl _ _).alloc (Nat.le_refl _) _)⟩
  ·rw [digit_above x (by rw [hl3.out]; exact Nat.le_refl _), Nat.zero_mod]
   exact natS_nil _ _
  ·rw [List.append_nil]; exact Blk.new _ _ _
  ·rw [digit_above x (by rw [hl3.out]; exact Nat.le_refl _), Nat.zero_div]; rfl
 case round =>
  obtain ⟨j, ar, nr, cr, z, hj, hq, rfl, hz, rfl, hnr, HR, HQ, HEr⟩ := hrel
  by_cases hj0 : j = 0
  ·subst hj0
   obtain rfl : z = -1 := by omega
   have hR := HR.out
   obtain ⟨Q, hQ1, hQ2, hQ3, hQ4⟩ := HQ.out
   rw [Nat.pow_zero, Nat.div_one] at hR hQ4
   have hNQ : NatS w.heap.size wr (some ⟨w2.heap.size, 0, none⟩) n3 n3 Q := by
    have := hQ1.nat (B := w.heap.size) hEs ((small_replicate _).append hQ3) n3 (by rw [List.length_append, List.length_replicate]; omega) (Nat.le_refl _) (by omega)
    rwa [List.replicate_zero, List.nil_append, List.take_of_length_le (by omega)] at this
   have HQ4 := Lib.hid hQ4
   have HRR := Lib.hid hR
   have HNQ := Lib.hid hNQ
   clear hz HR HQ hQ1 hQ2 hQ3 hQ4 hNQ hR
   go_wp2_with fail
   refine (r1Norm_any w.heap.size wr _ _ _ _ HNQ.out (by omega)).mono ?_
   rintro e w5 ⟨a5, n5, c5, rfl, h5, hE5⟩
   rw [HQ4.out] at h5
   have hE6 := Ext.trans HE.out HEr.out
   have HF : Hid (RDiv2 w (x / y) (x % y) (.returned (.tuple #[.slice a5 n5 c5, .slice ar nr cr])) w5) := Lib.hid ⟨a5, n5, c5, ar, nr, cr, rfl, h5.mono hE6.size (Kept.refl _ _), HRR.out.ext (by omega) hE5, Ext.trans hE6 hE5⟩
   clear h5 hE5 hE6
   go_wp2_with fail
   go_ret2
   exact HF.out
  ·obtain ⟨i, rfl⟩ : ∃ i, j = i + 1 := ⟨j - 1, by omega⟩
   obtain rfl : z = (i : Int) := by omega
   clear hz hj0
   obtain ⟨b3, o3, rfl, hb3, hc3⟩ := NatS.at' H3.out (k := i) (by omega)
   have hc := (HEr.out.cell (p := ⟨b3, o3 + i, none⟩) hb3).trans hc3
   have hdg := val_div_step hs3 i
   have hvx : val L = x := by rw [← HLL.out, val_limbs]
   rw [hvx] at hdg
   have hd := hs3.get i
   clear hc3 hvx
   generalize L[i]?.getD 0 = d at *
   have hR := HR.out
   have hEw : w2.heap.size + 1 ≤ wr.heap.size := by obtain ⟨Q, hQ1, _⟩ := HQ.out; exact hQ1.lt
   have hik : (i : Int) < (n3 : Int) := by omega
   obtain ⟨Q, hQ1, hQ2, hQ3, hQ4⟩ := HQ.out
   generalize hX0 : x / 4294967296 ^ i = X0 at *
   generalize hX1 : x / 4294967296 ^ (i + 1) = X1 at *
   obtain ⟨rr, hrr⟩ : ∃ rr, rr = d + 4294967296 * (X1 % y) := ⟨_, rfl⟩
   have hrem : rr % y = X0 % y := by rw [hrr, hdg]; exact div_rem X1 y d
   have hquo : X0 / y = rr / y + 4294967296 * (X1 / y) := by rw [hrr, hdg]; exact div_quo X1 y d hy0
   have hrq : rr / y < 4294967296 := by
    refine Nat.div_lt_of_lt_mul ?_
    have h1 := Nat.mod_lt X1 hy0
    have h2 : 4294967296 * (X1 % y) + 4294967296 ≤ 4294967296 * y := by rw [← Nat.mul_succ]; exact Nat.mul_le_mul_left _ h1
    rw [Nat.mul_comm y]; omega
   have hnlr : nl (rr % y) ≤ n4 := by have := nl_mono (Nat.le_of_lt (Nat.mod_lt rr hy0)); rw [hl4.out] at this; exact this
   have hnrr : nl rr ≤ n4 + 1 := by
    refine nl_le_of_lt ?_
    have h1 : rr < y * 4294967296 := by
     have h1 := Nat.mod_lt X1 hy0
     have h2 : 4294967296 * (X1 % y) + 4294967296 ≤ 4294967296 * y := by rw [← Nat.mul_succ]; exact Nat.mul_le_mul_left _ h1
     rw [Nat.mul_comm y]; omega
    have h2 := lt_pow_nl y
    rw [hl4.out] at h2
    rw [Nat.pow_succ]
    exact Nat.lt_of_lt_of_le h1 (Nat.mul_le_mul_right _ (Nat.le_of_lt h2))
   have HREM := Lib.hid hrem
   have HQUO := Lib.hid hquo
   have HRR : Hid (d + 4294967296 * val (limbs (X1 % y)) = rr) := Lib.hid (by rw [val_limbs]; exact hrr.symm)
   have HX0 := Lib.hid hX0
   have HQ1 := Lib.hid hQ1
   have HQ2 := Lib.hid hQ2
   have HQ4 := Lib.hid hQ4
   have hfresh : Hid (∀ v, (List.replicate (i + 1) 0 ++ Q).set i v = List.replicate i 0 ++ v :: Q) := Lib.hid (set_fill Q i)
   clear hrem hquo hrr hX0 hX1 hQ1 hQ2 hQ4 HQ HR hdg
   go_wp2_with fail
   refine (shift_any (w2.heap.size + 1) wr _ _ _ _ hR (by omega) d hd rr HRR).mono ?_
   rintro e w5 ⟨a5, n5, c5, rfl, h5, hE5⟩
   have h5 := h5.mono hEw (Kept.refl _ _)
   have hl5 := h5.len
   rw [length_limbs] at hl5
   have hn5 : n5 ≤ n4 + 1 := by omega
   have H5 := Lib.hid h5
   have HE5 := Lib.hid (Ext.trans HEr.out hE5)
   have HQ5 := Lib.hid (HQ1.out.ext hE5)
   clear h5 hE5 hl5 hR
   go_wp2_with fail
   refine (r1Cmp_any 0 w5 _ _ _ _ _ _ _ _ (H5.out.mono (Nat.zero_le _) (Kept.refl _ _)) (H4.out.ext (Nat.le_refl _) HE5.out) rr y (Lib.hid (val_limbs _)) HVY).mono ?_
   rintro e w5 ⟨rfl, rfl⟩
   by_cases hlt : rr < y
   ·rw [cmpI_lt hlt]
    have hr0 : rr % y = rr := Nat.mod_eq_of_lt hlt
    have hq0 : rr / y = 0 := Nat.div_eq_of_lt hlt
    have HA : Hid (limbs (X0 % y) = limbs rr) := Lib.hid (by rw [← HREM.out, hr0])
    have HB : Hid (val (0 :: Q) = X0 / y) := Lib.hid (by rw [val, HQ4.out, HQUO.out, hq0])
    rw [hr0] at hnlr
    have hn5' : n5 ≤ n4 := by have := H5.out.len; rw [length_limbs] at this; omega
    clear hr0 hq0
    go_wp2_with fail
    go_roundg i
    case measure => omega
    case rel =>
     refine ⟨i, a5, n5, c5, _, by omega, rfl, rfl, rfl, rfl, hn5', Lib.hid ?_, Lib.hid ⟨0 :: Q, ?_, ?_, small_cons (by decide) hQ3, ?_⟩, HE5⟩
     ·rw [HX0.out, HA.out]; exact H5.out
     ·have := HQ5.out
      rwa [List.replicate_succ', List.append_assoc] at this
     ·have := HQ2.out; simp; omega
     ·rw [HX0.out]; exact HB.out
   ·have hc0 : decide (cmpI rr y < 0) = false := by
     rcases Nat.lt_or_ge y rr with h1 | h1
     ·rw [cmpI_gt h1]; rfl
     ·rw [cmpI_eq (by omega)]; rfl
    obtain ⟨wq, rfl⟩ : ∃ wq : World, wq = w5 := ⟨_, rfl⟩
    go_wp2_with fail
    go_loopg [9, 10] 32 (fun q vd vk wx => ∃ (t dd : Nat) (zz : Int), t ≤ 32 ∧ q = t ∧ vk = .int .i64 zz ∧ zz = (t : Int) - 1 ∧ vd = .int .u32 (dd : Int) ∧ Hid (dd = rr / y / 2 ^ t * 2 ^ t) ∧ Hid (Ext wq wx))
    case atStart =>
     refine ⟨32, 0, 31, Nat.le_refl _, rfl, rfl, by decide, rfl, Lib.hid ?_, Lib.hid (Ext.refl _)⟩
     rw [Nat.div_eq_of_lt (a := rr / y) (Nat.lt_of_lt_of_eq hrq (by decide)), Nat.zero_mul]
    case round =>
     obtain ⟨t, dd, zz, ht, hqt, rfl, hzz, rfl, HD, HEx⟩ := hrel
     by_cases ht0 : t = 0
     ·subst ht0
      obtain rfl : zz = -1 := by omega
      have hD := HD.out
      rw [Nat.pow_zero, Nat.div_one, Nat.mul_one] at hD
      have hdlt : dd < 4294967296 := by rw [hD]; exact hrq
      have HD2 := Lib.hid hD
      clear hD hzz HD
      have hQx := HQ5.out.ext HEx.out
      have hL : (List.replicate (i + 1) 0 ++ Q).length = n3 := by have := HQ2.out; rw [List.length_append, List.length_replicate]; omega
      have hco := hQx.word (i := i) (by rw [hL]; omega)
      have hfr := hQx.free i
      have hwl := hQx.lt
      have HQS := Lib.hid (hQx.set i (.int .u32 (dd : Int)))
      have HES := Lib.hid ((Ext.trans HE5.out HEx.out).setCell (p := ⟨w2.heap.size, i, none⟩) (Nat.le_refl _) (.int .u32 (dd : Int)))
      have HR6 := Lib.hid ((H5.out.ext (Nat.le_refl _) HEx.out).mono (Nat.le_refl _) (kept_set _ i (.int .u32 (dd : Int)) (Nat.lt_succ_self w2.heap.size)))
      have HP : Hid (val (limbs y) * dd = y * dd) := Lib.hid (by rw [val_limbs])
      have hle : y * dd ≤ rr := by rw [HD2.out]; exact Nat.mul_div_le rr y
      have HSUB : Hid (rr - y * dd = rr % y) := Lib.hid (by rw [HD2.out]; have := Nat.div_add_mod rr y; omega)
      have HQF := Lib.hid (hfresh.out dd)
      have HQV : Hid (val (dd :: Q) = X0 / y) := Lib.hid (by rw [val, HQ4.out, HQUO.out, HD2.out])
      have hnp := nl_mono hle
      have hl5 : nl rr = n5 := by have := H5.out.len; rw [length_limbs] at this; exact this
      have HL5 := Lib.hid hl5
      rw [hl5] at hnp
      generalize (List.replicate (i + 1) 0 ++ Q)[i]?.getD 0 = old at hco
      clear hQx hL hl5
      generalize hPP : y * dd = PP at *
      have hPPe := Lib.hid hPP
      clear hPP
      have hW6 : w2.heap.size + 1 ≤ (wr.setCell ⟨w2.heap.size, i, none⟩ (.int .u32 (dd : Int))).heap.size := by simp only [World.setCell, Array.size_modify]; omega
      go_wp2_with fail
      generalize wr.setCell ⟨w2.heap.size, i, none⟩ (.int .u32 (dd : Int)) = W6 at *
      refine (r1Small_any 0 W6 _ _ _ _ (H4.out.ext (Nat.le_refl _) HES.out) (by omega) dd hdlt PP HP).mono ?_
      rintro e w7 ⟨a7, n7, c7, rfl, h7, hE7⟩
      have hn7 : n7 ≤ n5 := by have := h7.len; rw [length_limbs] at this; omega
      go_wp2_with fail
      refine (r1Sub_any 0 w7 _ _ _ _ _ _ _ _ ((HR6.out.ext (Nat.zero_le _) hE7)) (h7.mono (Nat.zero_le _) (Kept.refl _ _)) (by omega) hn7 (rr % y) (by rw [val_limbs, val_limbs]; exact hle) (by rw [val_limbs, val_limbs]; exact HSUB)).mono ?_
      rintro e w8 ⟨a8, n8, c8, rfl, h8, hE8⟩
      have hE78 := Ext.trans hE7 hE8
      have hn8 : n8 ≤ n4 := by have := h8.len; rw [length_limbs] at this; omega
      have H8 := Lib.hid (h8.mono (Nat.le_trans hW6 hE7.size) (Kept.refl _ _))
      have HE8 := Lib.hid (Ext.trans HES.out hE78)
      have HQ8 := Lib.hid (HQS.out.ext hE78)
      clear h7 h8 hE7 hE8 hE78
      go_wp2_with fail
      go_roundg i
      case measure => omega
      case rel =>
       refine ⟨i, a8, n8, c8, _, by omega, rfl, rfl, rfl, rfl, hn8, Lib.hid ?_, Lib.hid ⟨dd :: Q, ?_, ?_, small_cons hdlt hQ3, ?_⟩, HE8⟩
       ·rw [HX0.out, ← HREM.out]; exact H8.out
       ·have := HQ8.out
        rwa [words_set, HQF.out] at this
       ·have := HQ2.out; simp; omega
       ·rw [HX0.out]; exact HQV.out
     ·obtain ⟨u, rfl⟩ : ∃ u, t = u + 1 := ⟨t - 1, by omega⟩
      obtain rfl : zz = (u : Int) := by omega
      have hD := HD.out
      have hfit := bit_fit hrq (t := u) (by omega)
      have hmod : dd % 2 ^ (u + 1) = 0 := by rw [hD]; exact Nat.mul_mod_left _ _
      rw [← hD] at hfit
      have hor := bit_or (t := u) (by omega) hfit hmod
      have hstep := bit_step (r := rr) (k := u) hy0
      have hstay := bit_stay (r := rr) (k := u) hy0
      rw [← hD] at hstep hstay
      obtain ⟨T, hT⟩ : ∃ T, T = dd + 2 ^ u := ⟨_, rfl⟩
      rw [← hT] at hor hstep hstay hfit
      have HP : Hid (val (limbs y) * T = T * y) := Lib.hid (by rw [val_limbs, Nat.mul_comm])
      have HSTEP := Lib.hid hstep
      have HSTAY := Lib.hid hstay
      clear hD hmod hT hzz ht0 hstep hstay HD
      generalize hPP : T * y = PP at *
      have hPPe := Lib.hid hPP
      have hu : (u : Int) ≤ 31 := by omega
      clear hPP
      go_wp2_with fail
      refine (r1Small_any 0 wr _ _ _ _ (H4.out.ext (Nat.le_refl _) (Ext.trans HE5.out HEx.out)) (by omega) T hfit PP HP).mono ?_
      rintro e w7 ⟨a7, n7, c7, rfl, h7, hE7⟩
      go_wp2_with fail
      refine (r1Cmp_any 0 w7 _ _ _ _ _ _ _ _ (h7.mono (Nat.zero_le _) (Kept.refl _ _)) ((H5.out.ext (Nat.zero_le _) (Ext.trans HEx.out hE7))) PP rr (Lib.hid (val_limbs _)) (Lib.hid (val_limbs _))).mono ?_
      rintro e w7 ⟨rfl, rfl⟩
      have HE7 := Lib.hid (Ext.trans HEx.out hE7)
      clear h7 hE7
      by_cases hle : PP ≤ rr
      ·have hc := le_cmpI hle
       have HV : Hid (T = rr / y / 2 ^ u * 2 ^ u) := Lib.hid (HSTEP.out hle).symm
       clear hle
       go_wp2_with fail
       go_roundg u
       case measure => omega
       case rel => exact ⟨u, T, _, by omega, rfl, rfl, rfl, rfl, HV, HE7⟩
      ·have hc := gt_cmpI (Nat.lt_of_not_le hle)
       have HV : Hid (dd = rr / y / 2 ^ u * 2 ^ u) := Lib.hid (HSTAY.out (Nat.lt_of_not_le hle)).symm
       clear hle
       go_wp2_with fail
       go_roundg u
       case measure => omega
       case rel => exact ⟨u, dd, _, by omega, rfl, rfl, rfl, rfl, HV, HE7⟩
end Go.Proofs.YtbhenelehhiakaaGreat
namespace Go.Proofs.YtbhenelehhiakaaGreat
open Go.RowKit
theorem pow_two_le_nl {s x n : Nat} (h : 2 ^ s ≤ x) (hn : nl x ≤ n) : s ≤ 32 * n := by
 have h1 := lt_pow_nl x
 have h2 : (4294967296 : Nat) ^ nl x = 2 ^ (32 * nl x) := by
  rw [Nat.pow_mul, show (2 : Nat) ^ 32 = 4294967296 from by decide]
 rw [h2] at h1
 have h3 : 2 ^ s < 2 ^ (32 * nl x) := Nat.lt_of_le_of_lt h h1
 have := (Nat.pow_lt_pow_iff_right (by decide : 1 < 2)).1 h3
 omega
theorem limb0 {B : Nat} {w : World} {a : Option Addr} {n c X : Nat} (h : NatS B w a n c (limbs X)) (hX : 0 < X) : 0 < n ∧ ∃ b o d, a = some ⟨b, o, none⟩ ∧ w.cell? ⟨b, o, none⟩ = some (.int .u32 ((d : Nat) : Int)) ∧ (d : Int) % 2 = ((X % 2 : Nat) : Int) ∧ d < 4294967296 := by
 have hp : 0 < n := by
  have := h.len
  rw [length_limbs] at this
  have := nl_pos hX
  omega
 obtain ⟨b, o, h1, h2, h3⟩ := NatS.at' h hp
 have h4 := val_odd (l := limbs X) (by rw [h.len]; exact hp)
 rw [val_limbs] at h4
 exact ⟨hp, b, o, _, h1, by simpa using h3, by omega, (small_limbs X).get 0⟩
theorem lt_cmpI {a b : Nat} (h : a < b) : decide (0 ≤ cmpI a b) = false := by rw [cmpI_lt h]; rfl
theorem ge_cmpI {a b : Nat} (h : b ≤ a) : decide (0 ≤ cmpI a b) = true := by
 rcases Nat.lt_or_ge b a with h1 | h1
 ·rw [cmpI_gt h1]; rfl
 ·rw [cmpI_eq (by omega)]; rfl
theorem limb_zero {B : Nat} {w : World} {a : Option Addr} {n c X : Nat} (h : NatS B w a n c (limbs X)) : n = nl X := h.len.symm
set_option maxRecDepth 100000 in
set_option maxHeartbeats 4000000 in
theorem r1Gcd_any (B : Nat) (w : World) (a a2 : Option Addr) (n c n2 c2 : Nat) (l l2 : Nt) (h : NatS B w a n c l) (h2 : NatS B w a2 n2 c2 l2) (hn : n ≤ 549755813888) (hn2 : n2 ≤ 549755813888) (x y : Nat) (hx : Hid (val l = x)) (hy : Hid (val l2 = y)) :
  Calls Tryz.prog 143 #[.slice a n c, .slice a2 n2 c2] w (RNat w (Nat.gcd x y)) := by
 have hnx : nl x ≤ n := by have := nl_val h.small; rw [hx.out, h.len] at this; exact this
 have hny : nl y ≤ n2 := by have := nl_val h2.small; rw [hy.out, h2.len] at this; exact this
 go_enter Tryz.func143, Tryz.ntmps143
 go_wp2_with fail
 refine (r1Norm_any B w a n c l h (by omega)).mono ?_
 rintro e w1 ⟨a3, n3, c3, rfl, h3, hE1⟩
 go_wp2_with fail
 refine (r1Norm_any B w1 a2 n2 c2 l2 (h2.ext (Nat.le_refl _) hE1) (by omega)).mono ?_
 rintro e w2 ⟨a4, n4, c4, rfl, h4, hE2⟩
 have h3 := h3.ext (Nat.le_refl _) hE2
 have hE := Ext.trans hE1 hE2
 rw [hx.out] at h3
 rw [hy.out] at h4
 have h4 := h4.mono hE1.size (Kept.refl _ _)
 have H3 := Lib.hid h3
 have H4 := Lib.hid h4
 have HE := Lib.hid hE
 clear h h2 h3 h4 hE1 hE2 hx hy hE
 by_cases hx0 : x = 0
 ·subst hx0
  obtain rfl : n3 = 0 := limb_zero H3.out
  have HF : Hid (RNat w (Nat.gcd 0 y) (.returned (.slice a4 n4 c4)) w2) := Lib.hid (by rw [Nat.gcd_zero_left]; exact RNat.intro H4.out HE.out)
  go_wp2_with fail
  go_ret
  exact HF.out
 ·have hn3 : ((n3 : Int) == 0) = false := by
   have := (limb0 H3.out (by omega)).1
   simp; omega
  by_cases hy0 : y = 0
  ·subst hy0
   obtain rfl : n4 = 0 := limb_zero H4.out
   have HF : Hid (RNat w (Nat.gcd x 0) (.returned (.slice a3 n3 c3)) w2) := Lib.hid (by rw [Nat.gcd_zero_right]; exact RNat.intro H3.out HE.out)
   go_wp2_with fail
   go_ret
   exact HF.out
  ·have hn4 : ((n4 : Int) == 0) = false := by
    have := (limb0 H4.out (by omega)).1
    simp; omega
   have hxp : 0 < x := by omega
   have hyp : 0 < y := by omega
   clear hx0 hy0
   go_wp2_with fail
   go_loopg [0, 1, 5] x (fun q va vb vs wr => ∃ (aa ab : Option Addr) (na ca nb cb X Y s : Nat), q = X ∧ va = .slice aa na ca ∧ vb = .slice ab nb cb ∧ vs = .int .i64 (s : Int) ∧ Hid (NatS w.heap.size wr aa na ca (limbs X)) ∧ Hid (NatS w.heap.size wr ab nb cb (limbs Y)) ∧ 0 < X ∧ 0 < Y ∧ Hid (x = 2 ^ s * X ∧ y = 2 ^ s * Y) ∧ Hid (Ext w wr))
   case atStart => exact ⟨a3, a4, n3, c3, n4, c4, x, y, 0, rfl, rfl, rfl, rfl, H3, H4, hxp, hyp, Lib.hid ⟨by simp, by simp⟩, HE⟩
   case round =>
    obtain ⟨aa, ab, na, ca, nb, cb, X, Y, s, hq, rfl, rfl, rfl, HA, HB, hX, hY, HS, HEr⟩ := hrel
    obtain ⟨hna, b5, o5, d5, rfl, hc5, hd5, _⟩ := limb0 HA.out hX
    obtain ⟨hnb, b6, o6, d6, rfl, hc6, hd6, _⟩ := limb0 HB.out hY
    have hXx : X ≤ x := by rw [HS.out.1]; exact Nat.le_mul_of_pos_left _ (Nat.two_pow_pos s)
    have hYy : Y ≤ y := by rw [HS.out.2]; exact Nat.le_mul_of_pos_left _ (Nat.two_pow_pos s)
    have hs : s ≤ 32 * n := pow_two_le_nl (x := x) (by rw [HS.out.1]; exact Nat.le_mul_of_pos_right _ hX) hnx
    have hnlX : na ≤ n := by rw [limb_zero HA.out]; exact Nat.le_trans (nl_mono hXx) hnx
    have hnlY : nb ≤ n2 := by rw [limb_zero HB.out]; exact Nat.le_trans (nl_mono hYy) hny
    by_cases hev : X % 2 = 0 ∧ Y % 2 = 0
    ·obtain ⟨hx2, hy2⟩ := hev
     rw [hx2] at hd5
     rw [hy2] at hd6
     replace hd5 : (d5 : Int) % 2 = 0 := hd5
     replace hd6 : (d6 : Int) % 2 = 0 := hd6
     have HX : Hid (x = 2 ^ (s + 1) * (X / 2) ∧ y = 2 ^ (s + 1) * (Y / 2)) := Lib.hid (by
      rw [Nat.pow_succ, Nat.mul_assoc, Nat.mul_assoc, show 2 * (X / 2) = X by omega, show 2 * (Y / 2) = Y by omega]
      exact HS.out)
     have hX2 : 0 < X / 2 := by omega
     have hY2 : 0 < Y / 2 := by omega
     have hmx : X / 2 < X := by omega
     have HV : Hid (val (limbs X) / 2 = X / 2) := Lib.hid (by rw [val_limbs])
     have HV2 : Hid (val (limbs Y) / 2 = Y / 2) := Lib.hid (by rw [val_limbs])
     clear hx2 hy2
     generalize X / 2 = X2 at *
     generalize Y / 2 = Y2 at *
     go_wp2_with fail
     refine (r1half_any w.heap.size wr _ _ _ _ HA.out (by omega) X2 HV).mono ?_
     rintro e w5 ⟨a7, n7, c7, rfl, h7, hE7⟩
     go_wp2_with fail
     refine (r1half_any w.heap.size w5 _ _ _ _ (HB.out.ext (Nat.le_refl _) hE7) (by omega) Y2 HV2).mono ?_
     rintro e w6 ⟨a8, n8, c8, rfl, h8, hE8⟩
     have H7 := Lib.hid ((h7.ext (Nat.le_refl _) hE8).mono HEr.out.size (Kept.refl _ _))
     have H8 := Lib.hid (h8.mono (Nat.le_trans HEr.out.size hE7.size) (Kept.refl _ _))
     have HE8 := Lib.hid (Ext.trans HEr.out (Ext.trans hE7 hE8))
     clear h7 h8 hE7 hE8
     go_wp2_with fail
     go_roundg X2
     case measure => omega
     case rel => exact ⟨a7, a8, n7, c7, n8, c8, X2, Y2, s + 1, rfl, rfl, rfl, by go_num, H7, H8, hX2, hY2, HX, HE8⟩
    ·have HG : Hid (Nat.gcd x y = 2 ^ s * Nat.gcd X Y) := Lib.hid (by
      conv => lhs; rw [HS.out.1, HS.out.2]
      exact Nat.gcd_mul_left ..)
     have hpar : X % 2 = 1 ∨ Y % 2 = 1 := by omega
     have hXB := hXx
     have hYB := hYy
     obtain ⟨wo, rfl⟩ : ∃ wo : World, wo = wr := ⟨_, rfl⟩
     have hev2 : X % 2 = 1 ∨ X % 2 = 0 ∧ Y % 2 = 1 := by omega
     clear hev
     rcases hev2 with hx2 | ⟨hx2, hy2⟩
     ·rw [hx2] at hd5
      replace hd5 : (d5 : Int) % 2 = 1 := hd5
      clear hx2
      go_wp2_with fail
      go_loopg [0, 1] (X + Y) (fun q va vb wr2 => ∃ (aa ab : Option Addr) (na ca nb cb P Q : Nat), q = P + Q ∧ va = .slice aa na ca ∧ vb = .slice ab nb cb ∧ Hid (NatS w.heap.size wr2 aa na ca (limbs P)) ∧ Hid (NatS w.heap.size wr2 ab nb cb (limbs Q)) ∧ Hid (Nat.gcd P Q = Nat.gcd X Y) ∧ (P % 2 = 1 ∨ Q % 2 = 1) ∧ P ≤ X ∧ Q ≤ Y ∧ Hid (Ext w wr2))
      case atStart => exact ⟨_, _, _, _, _, _, X, Y, rfl, rfl, rfl, HA, HB, Lib.hid rfl, hpar, Nat.le_refl _, Nat.le_refl _, HEr⟩
      case round =>
       obtain ⟨aa, ab, na, ca, nb, cb, P, Q, hq2, rfl, rfl, HP, HQ, HG2, hpar2, hPX, hQY, HE2⟩ := hrel
       clear hc5 hc6 hd5 hd6 HA HB HEr
       have hnaB : na ≤ n := by rw [limb_zero HP.out]; exact Nat.le_trans (nl_mono (Nat.le_trans hPX hXB)) hnx
       have hnbB : nb ≤ n2 := by rw [limb_zero HQ.out]; exact Nat.le_trans (nl_mono (Nat.le_trans hQY hYB)) hny
       by_cases hP0 : P = 0
       ·subst hP0
        obtain rfl : na = 0 := limb_zero HP.out
        have HVL : Hid (val (limbs Q) * 2 ^ s = Nat.gcd x y) := Lib.hid (by rw [val_limbs, HG.out, ← HG2.out, Nat.gcd_zero_left, Nat.mul_comm])
        clear hq2
        go_wp2_with fail
        refine (r1Left_any w.heap.size wr _ _ _ _ HQ.out (by omega) s (by omega) (Nat.gcd x y) HVL).mono ?_
        rintro e w9 ⟨a9, n9, c9, rfl, h9, hE9⟩
        have HF := Lib.hid (RNat.intro (h9.mono HE2.out.size (Kept.refl _ _)) (Ext.trans HE2.out hE9))
        clear h9 hE9
        go_wp2_with fail
        go_ret
        exact HF.out
       ·obtain ⟨hnap, b5, o5, d5, rfl, hc5, hd5, _⟩ := limb0 HP.out (by omega)
        have hna0 : ((na : Int) == 0) = false := by simp; omega
        by_cases hQ0 : Q = 0
        ·subst hQ0
         obtain rfl : nb = 0 := limb_zero HQ.out
         have HVL : Hid (val (limbs P) * 2 ^ s = Nat.gcd x y) := Lib.hid (by rw [val_limbs, HG.out, ← HG2.out, Nat.gcd_zero_right, Nat.mul_comm])
         clear hq2 hd5
         go_wp2_with fail
         refine (r1Left_any w.heap.size wr _ _ _ _ HP.out (by omega) s (by omega) (Nat.gcd x y) HVL).mono ?_
         rintro e w9 ⟨a9, n9, c9, rfl, h9, hE9⟩
         have HF := Lib.hid (RNat.intro (h9.mono HE2.out.size (Kept.refl _ _)) (Ext.trans HE2.out hE9))
         clear h9 hE9
         go_wp2_with fail
         go_ret
         exact HF.out
        ·obtain ⟨hnbp, b6, o6, d6, rfl, hc6, hd6, _⟩ := limb0 HQ.out (by omega)
         have hPp : 0 < P := by omega
         have hQp : 0 < Q := by omega
         clear hP0 hQ0 hd5 hd6 hc5 hc6
         obtain ⟨wp, rfl⟩ : ∃ wp : World, wp = wr := ⟨_, rfl⟩
         go_wp2_with fail
         go_loopg [0] P (fun q va wr3 => ∃ (aa : Option Addr) (na ca R : Nat), q = R ∧ va = .slice aa na ca ∧ Hid (NatS w.heap.size wr3 aa na ca (limbs R)) ∧ Hid (NatS w.heap.size wr3 (some ⟨b6, o6, none⟩) nb cb (limbs Q)) ∧ Hid (Nat.gcd R Q = Nat.gcd X Y) ∧ (R % 2 = 1 ∨ Q % 2 = 1) ∧ 0 < R ∧ R ≤ P ∧ Hid (Ext w wr3))
         case atStart => exact ⟨_, _, _, P, rfl, rfl, HP, HQ, HG2, hpar2, hPp, Nat.le_refl _, HE2⟩
         case round =>
          obtain ⟨aa, na2, ca2, R, hq3, rfl, HR, HQ3, HG3, hpar3, hR, hRP, HE3⟩ := hrel
          clear HP HQ HE2 HG2
          obtain ⟨hnr, b5, o5, d5, rfl, hc5, hd5, _⟩ := limb0 HR.out hR
          have hnrB : na2 ≤ n := by rw [limb_zero HR.out]; exact Nat.le_trans (nl_mono (Nat.le_trans hRP (Nat.le_trans hPX hXB))) hnx
          by_cases hev : R % 2 = 0
          ·have HV : Hid (val (limbs R) / 2 = R / 2) := Lib.hid (by rw [val_limbs])
           have HG4 : Hid (Nat.gcd (R / 2) Q = Nat.gcd X Y) := Lib.hid ((gcd_half_left hev (by omega)).trans HG3.out)
           have hQo : Q % 2 = 1 := by omega
           have hR2 : 0 < R / 2 := by omega
           have hR3 : R / 2 < R := by omega
           rw [hev] at hd5
           replace hd5 : (d5 : Int) % 2 = 0 := hd5
           clear hev HG3
           have hpar5 : (R / 2) % 2 = 1 ∨ Q % 2 = 1 := .inr hQo
           generalize R / 2 = R2 at *
           clear hQo hpar3
           go_wp2_with fail
           refine (r1half_any w.heap.size wr _ _ _ _ HR.out (by omega) R2 HV).mono ?_
           rintro e w7 ⟨a7, n7, c7, rfl, h7, hE7⟩
           have H7 := Lib.hid (h7.mono HE3.out.size (Kept.refl _ _))
           have HO7 := Lib.hid (HQ3.out.ext (Nat.le_refl _) hE7)
           have HE7 := Lib.hid (Ext.trans HE3.out hE7)
           clear h7 hE7
           go_wp2_with fail
           go_roundg R2
           case measure => omega
           case rel => exact ⟨a7, n7, c7, R2, rfl, rfl, H7, HO7, HG4, hpar5, hR2, by omega, HE7⟩
          ·have hRo : R % 2 = 1 := by omega
           rw [hRo] at hd5
           replace hd5 : (d5 : Int) % 2 = 1 := hd5
           have HRo := Lib.hid hRo
           clear hev hRo hpar3
           obtain ⟨wp3, rfl⟩ : ∃ wp3 : World, wp3 = wr := ⟨_, rfl⟩
           go_wp2_with fail
           go_loopg [1] Q (fun q vb wr4 => ∃ (ab : Option Addr) (nb cb T : Nat), q = T ∧ vb = .slice ab nb cb ∧ Hid (NatS w.heap.size wr4 ab nb cb (limbs T)) ∧ Hid (NatS w.heap.size wr4 (some ⟨b5, o5, none⟩) na2 ca2 (limbs R)) ∧ Hid (Nat.gcd R T = Nat.gcd X Y) ∧ 0 < T ∧ T ≤ Q ∧ Hid (Ext w wr4))
           case atStart => exact ⟨_, _, _, Q, rfl, rfl, HQ3, HR, HG3, hQp, Nat.le_refl _, HE3⟩
           case round =>
            obtain ⟨ab, nb2, cb2, T, hq4, rfl, HT, HR4, HG4, hT, hTQ, HE4⟩ := hrel
            clear hc5 hd5 HR HQ3 HG3 HE3
            obtain ⟨hnt, b7, o7, d7, rfl, hc7, hd7, _⟩ := limb0 HT.out hT
            have hntB : nb2 ≤ n2 := by rw [limb_zero HT.out]; exact Nat.le_trans (nl_mono (Nat.le_trans hTQ (Nat.le_trans hQY hYB))) hny
            by_cases hev : T % 2 = 0
            ·have HV : Hid (val (limbs T) / 2 = T / 2) := Lib.hid (by rw [val_limbs])
             have HG5 : Hid (Nat.gcd R (T / 2) = Nat.gcd X Y) := Lib.hid ((gcd_half_right HRo.out hev).trans HG4.out)
             have hT2 : 0 < T / 2 := by omega
             have hT3 : T / 2 < T := by omega
             rw [hev] at hd7
             replace hd7 : (d7 : Int) % 2 = 0 := hd7
             clear hev HG4
             generalize T / 2 = T2 at *
             go_wp2_with fail
             refine (r1half_any w.heap.size wr _ _ _ _ HT.out (by omega) T2 HV).mono ?_
             rintro e w7 ⟨a7, n7, c7, rfl, h7, hE7⟩
             have H7 := Lib.hid (h7.mono HE4.out.size (Kept.refl _ _))
             have HO7 := Lib.hid (HR4.out.ext (Nat.le_refl _) hE7)
             have HE7 := Lib.hid (Ext.trans HE4.out hE7)
             clear h7 hE7
             go_wp2_with fail
             go_roundg T2
             case measure => omega
             case rel => exact ⟨a7, n7, c7, T2, rfl, rfl, H7, HO7, HG5, hT2, by omega, HE7⟩
            ·have hTo : T % 2 = 1 := by omega
             rw [hTo] at hd7
             replace hd7 : (d7 : Int) % 2 = 1 := hd7
             have HTo := Lib.hid hTo
             clear hev hTo
             by_cases hlt : R < T
             ·have hc0 := lt_cmpI hlt
              have HG5 : Hid (Nat.gcd R (T - R) = Nat.gcd X Y) := Lib.hid ((gcd_sub_right (Nat.le_of_lt hlt)).trans HG4.out)
              have HSB : Hid (val (limbs T) - val (limbs R) = T - R) := Lib.hid (by rw [val_limbs, val_limbs])
              go_wp2_with (go_at_call 150; refine (r1Cmp_any w.heap.size wr _ _ _ _ _ _ _ _ HR4.out HT.out R T (Lib.hid (val_limbs _)) (Lib.hid (val_limbs _))).mono ?_; rintro e w5 ⟨rfl, rfl⟩)
              refine (r1Sub_any w.heap.size wr _ _ _ _ _ _ _ _ HT.out HR4.out (by omega) (by rw [limb_zero HT.out, limb_zero HR4.out]; exact nl_mono (Nat.le_of_lt hlt)) (T - R) (by rw [val_limbs, val_limbs]; omega) HSB).mono ?_
              rintro e w7 ⟨a7, n7, c7, rfl, h7, hE7⟩
              have H7 := Lib.hid (h7.mono HE4.out.size (Kept.refl _ _))
              have HO7 := Lib.hid (HR4.out.ext (Nat.le_refl _) hE7)
              have HE7 := Lib.hid (Ext.trans HE4.out hE7)
              clear h7 hE7 hc0
              go_wp2_with fail
              go_roundg (R + (T - R))
              case measure => omega
              case rel => exact ⟨_, a7, na2, ca2, n7, c7, R, T - R, rfl, rfl, rfl, HO7, H7, HG5, .inl HRo.out, by omega, by omega, HE7⟩
             ·have hc0 := ge_cmpI (Nat.le_of_not_lt hlt)
              have HG5 : Hid (Nat.gcd (R - T) T = Nat.gcd X Y) := Lib.hid ((gcd_sub_left (Nat.le_of_not_lt hlt)).trans HG4.out)
              have HSB : Hid (val (limbs R) - val (limbs T) = R - T) := Lib.hid (by rw [val_limbs, val_limbs])
              go_wp2_with (go_at_call 150; refine (r1Cmp_any w.heap.size wr _ _ _ _ _ _ _ _ HR4.out HT.out R T (Lib.hid (val_limbs _)) (Lib.hid (val_limbs _))).mono ?_; rintro e w5 ⟨rfl, rfl⟩)
              refine (r1Sub_any w.heap.size wr _ _ _ _ _ _ _ _ HR4.out HT.out (by omega) (by rw [limb_zero HT.out, limb_zero HR4.out]; exact nl_mono (Nat.le_of_not_lt hlt)) (R - T) (by rw [val_limbs, val_limbs]; omega) HSB).mono ?_
              rintro e w7 ⟨a7, n7, c7, rfl, h7, hE7⟩
              have H7 := Lib.hid (h7.mono HE4.out.size (Kept.refl _ _))
              have HO7 := Lib.hid (HT.out.ext (Nat.le_refl _) hE7)
              have HE7 := Lib.hid (Ext.trans HE4.out hE7)
              clear h7 hE7 hc0
              go_wp2_with fail
              go_roundg ((R - T) + T)
              case measure => omega
              case rel => exact ⟨a7, _, n7, c7, nb2, cb2, R - T, T, rfl, rfl, rfl, H7, HO7, HG5, .inr HTo.out, by omega, by omega, HE7⟩
     ·rw [hx2] at hd5
      rw [hy2] at hd6
      replace hd5 : (d5 : Int) % 2 = 0 := hd5
      replace hd6 : (d6 : Int) % 2 = 1 := hd6
      clear hx2 hy2
      go_wp2_with fail
      go_loopg [0, 1] (X + Y) (fun q va vb wr2 => ∃ (aa ab : Option Addr) (na ca nb cb P Q : Nat), q = P + Q ∧ va = .slice aa na ca ∧ vb = .slice ab nb cb ∧ Hid (NatS w.heap.size wr2 aa na ca (limbs P)) ∧ Hid (NatS w.heap.size wr2 ab nb cb (limbs Q)) ∧ Hid (Nat.gcd P Q = Nat.gcd X Y) ∧ (P % 2 = 1 ∨ Q % 2 = 1) ∧ P ≤ X ∧ Q ≤ Y ∧ Hid (Ext w wr2))
      case atStart => exact ⟨_, _, _, _, _, _, X, Y, rfl, rfl, rfl, HA, HB, Lib.hid rfl, hpar, Nat.le_refl _, Nat.le_refl _, HEr⟩
      case round =>
       obtain ⟨aa, ab, na, ca, nb, cb, P, Q, hq2, rfl, rfl, HP, HQ, HG2, hpar2, hPX, hQY, HE2⟩ := hrel
       clear hc5 hc6 hd5 hd6 HA HB HEr
       have hnaB : na ≤ n := by rw [limb_zero HP.out]; exact Nat.le_trans (nl_mono (Nat.le_trans hPX hXB)) hnx
       have hnbB : nb ≤ n2 := by rw [limb_zero HQ.out]; exact Nat.le_trans (nl_mono (Nat.le_trans hQY hYB)) hny
       by_cases hP0 : P = 0
       ·subst hP0
        obtain rfl : na = 0 := limb_zero HP.out
        have HVL : Hid (val (limbs Q) * 2 ^ s = Nat.gcd x y) := Lib.hid (by rw [val_limbs, HG.out, ← HG2.out, Nat.gcd_zero_left, Nat.mul_comm])
        clear hq2
        go_wp2_with fail
        refine (r1Left_any w.heap.size wr _ _ _ _ HQ.out (by omega) s (by omega) (Nat.gcd x y) HVL).mono ?_
        rintro e w9 ⟨a9, n9, c9, rfl, h9, hE9⟩
        have HF := Lib.hid (RNat.intro (h9.mono HE2.out.size (Kept.refl _ _)) (Ext.trans HE2.out hE9))
        clear h9 hE9
        go_wp2_with fail
        go_ret
        exact HF.out
       ·obtain ⟨hnap, b5, o5, d5, rfl, hc5, hd5, _⟩ := limb0 HP.out (by omega)
        have hna0 : ((na : Int) == 0) = false := by simp; omega
        by_cases hQ0 : Q = 0
        ·subst hQ0
         obtain rfl : nb = 0 := limb_zero HQ.out
         have HVL : Hid (val (limbs P) * 2 ^ s = Nat.gcd x y) := Lib.hid (by rw [val_limbs, HG.out, ← HG2.out, Nat.gcd_zero_right, Nat.mul_comm])
         clear hq2 hd5
         go_wp2_with fail
         refine (r1Left_any w.heap.size wr _ _ _ _ HP.out (by omega) s (by omega) (Nat.gcd x y) HVL).mono ?_
         rintro e w9 ⟨a9, n9, c9, rfl, h9, hE9⟩
         have HF := Lib.hid (RNat.intro (h9.mono HE2.out.size (Kept.refl _ _)) (Ext.trans HE2.out hE9))
         clear h9 hE9
         go_wp2_with fail
         go_ret
         exact HF.out
        ·obtain ⟨hnbp, b6, o6, d6, rfl, hc6, hd6, _⟩ := limb0 HQ.out (by omega)
         have hPp : 0 < P := by omega
         have hQp : 0 < Q := by omega
         clear hP0 hQ0 hd5 hd6 hc5 hc6
         obtain ⟨wp, rfl⟩ : ∃ wp : World, wp = wr := ⟨_, rfl⟩
         go_wp2_with fail
         go_loopg [0] P (fun q va wr3 => ∃ (aa : Option Addr) (na ca R : Nat), q = R ∧ va = .slice aa na ca ∧ Hid (NatS w.heap.size wr3 aa na ca (limbs R)) ∧ Hid (NatS w.heap.size wr3 (some ⟨b6, o6, none⟩) nb cb (limbs Q)) ∧ Hid (Nat.gcd R Q = Nat.gcd X Y) ∧ (R % 2 = 1 ∨ Q % 2 = 1) ∧ 0 < R ∧ R ≤ P ∧ Hid (Ext w wr3))
         case atStart => exact ⟨_, _, _, P, rfl, rfl, HP, HQ, HG2, hpar2, hPp, Nat.le_refl _, HE2⟩
         case round =>
          obtain ⟨aa, na2, ca2, R, hq3, rfl, HR, HQ3, HG3, hpar3, hR, hRP, HE3⟩ := hrel
          clear HP HQ HE2 HG2
          obtain ⟨hnr, b5, o5, d5, rfl, hc5, hd5, _⟩ := limb0 HR.out hR
          have hnrB : na2 ≤ n := by rw [limb_zero HR.out]; exact Nat.le_trans (nl_mono (Nat.le_trans hRP (Nat.le_trans hPX hXB))) hnx
          by_cases hev : R % 2 = 0
          ·have HV : Hid (val (limbs R) / 2 = R / 2) := Lib.hid (by rw [val_limbs])
           have HG4 : Hid (Nat.gcd (R / 2) Q = Nat.gcd X Y) := Lib.hid ((gcd_half_left hev (by omega)).trans HG3.out)
           have hQo : Q % 2 = 1 := by omega
           have hR2 : 0 < R / 2 := by omega
           have hR3 : R / 2 < R := by omega
           rw [hev] at hd5
           replace hd5 : (d5 : Int) % 2 = 0 := hd5
           clear hev HG3
           have hpar5 : (R / 2) % 2 = 1 ∨ Q % 2 = 1 := .inr hQo
           generalize R / 2 = R2 at *
           clear hQo hpar3
           go_wp2_with fail
           refine (r1half_any w.heap.size wr _ _ _ _ HR.out (by omega) R2 HV).mono ?_
           rintro e w7 ⟨a7, n7, c7, rfl, h7, hE7⟩
           have H7 := Lib.hid (h7.mono HE3.out.size (Kept.refl _ _))
           have HO7 := Lib.hid (HQ3.out.ext (Nat.le_refl _) hE7)
           have HE7 := Lib.hid (Ext.trans HE3.out hE7)
           clear h7 hE7
           go_wp2_with fail
           go_roundg R2
           case measure => omega
           case rel => exact ⟨a7, n7, c7, R2, rfl, rfl, H7, HO7, HG4, hpar5, hR2, by omega, HE7⟩
          ·have hRo : R % 2 = 1 := by omega
           rw [hRo] at hd5
           replace hd5 : (d5 : Int) % 2 = 1 := hd5
           have HRo := Lib.hid hRo
           clear hev hRo hpar3
           obtain ⟨wp3, rfl⟩ : ∃ wp3 : World, wp3 = wr := ⟨_, rfl⟩
           go_wp2_with fail
           go_loopg [1] Q (fun q vb wr4 => ∃ (ab : Option Addr) (nb cb T : Nat), q = T ∧ vb = .slice ab nb cb ∧ Hid (NatS w.heap.size wr4 ab nb cb (limbs T)) ∧ Hid (NatS w.heap.size wr4 (some ⟨b5, o5, none⟩) na2 ca2 (limbs R)) ∧ Hid (Nat.gcd R T = Nat.gcd X Y) ∧ 0 < T ∧ T ≤ Q ∧ Hid (Ext w wr4))
           case atStart => exact ⟨_, _, _, Q, rfl, rfl, HQ3, HR, HG3, hQp, Nat.le_refl _, HE3⟩
           case round =>
            obtain ⟨ab, nb2, cb2, T, hq4, rfl, HT, HR4, HG4, hT, hTQ, HE4⟩ := hrel
            clear hc5 hd5 HR HQ3 HG3 HE3
            obtain ⟨hnt, b7, o7, d7, rfl, hc7, hd7, _⟩ := limb0 HT.out hT
            have hntB : nb2 ≤ n2 := by rw [limb_zero HT.out]; exact Nat.le_trans (nl_mono (Nat.le_trans hTQ (Nat.le_trans hQY hYB))) hny
            by_cases hev : T % 2 = 0
            ·have HV : Hid (val (limbs T) / 2 = T / 2) := Lib.hid (by rw [val_limbs])
             have HG5 : Hid (Nat.gcd R (T / 2) = Nat.gcd X Y) := Lib.hid ((gcd_half_right HRo.out hev).trans HG4.out)
             have hT2 : 0 < T / 2 := by omega
             have hT3 : T / 2 < T := by omega
             rw [hev] at hd7
             replace hd7 : (d7 : Int) % 2 = 0 := hd7
             clear hev HG4
             generalize T / 2 = T2 at *
             go_wp2_with fail
             refine (r1half_any w.heap.size wr _ _ _ _ HT.out (by omega) T2 HV).mono ?_
             rintro e w7 ⟨a7, n7, c7, rfl, h7, hE7⟩
             have H7 := Lib.hid (h7.mono HE4.out.size (Kept.refl _ _))
             have HO7 := Lib.hid (HR4.out.ext (Nat.le_refl _) hE7)
             have HE7 := Lib.hid (Ext.trans HE4.out hE7)
             clear h7 hE7
             go_wp2_with fail
             go_roundg T2
             case measure => omega
             case rel => exact ⟨a7, n7, c7, T2, rfl, rfl, H7, HO7, HG5, hT2, by omega, HE7⟩
            ·have hTo : T % 2 = 1 := by omega
             rw [hTo] at hd7
             replace hd7 : (d7 : Int) % 2 = 1 := hd7
             have HTo := Lib.hid hTo
             clear hev hTo
             by_cases hlt : R < T
             ·have hc0 := lt_cmpI hlt
              have HG5 : Hid (Nat.gcd R (T - R) = Nat.gcd X Y) := Lib.hid ((gcd_sub_right (Nat.le_of_lt hlt)).trans HG4.out)
              have HSB : Hid (val (limbs T) - val (limbs R) = T - R) := Lib.hid (by rw [val_limbs, val_limbs])
              go_wp2_with (go_at_call 150; refine (r1Cmp_any w.heap.size wr _ _ _ _ _ _ _ _ HR4.out HT.out R T (Lib.hid (val_limbs _)) (Lib.hid (val_limbs _))).mono ?_; rintro e w5 ⟨rfl, rfl⟩)
              refine (r1Sub_any w.heap.size wr _ _ _ _ _ _ _ _ HT.out HR4.out (by omega) (by rw [limb_zero HT.out, limb_zero HR4.out]; exact nl_mono (Nat.le_of_lt hlt)) (T - R) (by rw [val_limbs, val_limbs]; omega) HSB).mono ?_
              rintro e w7 ⟨a7, n7, c7, rfl, h7, hE7⟩
              have H7 := Lib.hid (h7.mono HE4.out.size (Kept.refl _ _))
              have HO7 := Lib.hid (HR4.out.ext (Nat.le_refl _) hE7)
              have HE7 := Lib.hid (Ext.trans HE4.out hE7)
              clear h7 hE7 hc0
              go_wp2_with fail
              go_roundg (R + (T - R))
              case measure => omega
              case rel => exact ⟨_, a7, na2, ca2, n7, c7, R, T - R, rfl, rfl, rfl, HO7, H7, HG5, .inl HRo.out, by omega, by omega, HE7⟩
             ·have hc0 := ge_cmpI (Nat.le_of_not_lt hlt)
              have HG5 : Hid (Nat.gcd (R - T) T = Nat.gcd X Y) := Lib.hid ((gcd_sub_left (Nat.le_of_not_lt hlt)).trans HG4.out)
              have HSB : Hid (val (limbs R) - val (limbs T) = R - T) := Lib.hid (by rw [val_limbs, val_limbs])
              go_wp2_with (go_at_call 150; refine (r1Cmp_any w.heap.size wr _ _ _ _ _ _ _ _ HR4.out HT.out R T (Lib.hid (val_limbs _)) (Lib.hid (val_limbs _))).mono ?_; rintro e w5 ⟨rfl, rfl⟩)
              refine (r1Sub_any w.heap.size wr _ _ _ _ _ _ _ _ HR4.out HT.out (by omega) (by rw [limb_zero HT.out, limb_zero HR4.out]; exact nl_mono (Nat.le_of_not_lt hlt)) (R - T) (by rw [val_limbs, val_limbs]; omega) HSB).mono ?_
              rintro e w7 ⟨a7, n7, c7, rfl, h7, hE7⟩
              have H7 := Lib.hid (h7.mono HE4.out.size (Kept.refl _ _))
              have HO7 := Lib.hid (HT.out.ext (Nat.le_refl _) hE7)
              have HE7 := Lib.hid (Ext.trans HE4.out hE7)
              clear h7 hE7 hc0
              go_wp2_with fail
              go_roundg ((R - T) + T)
              case measure => omega
              case rel => exact ⟨a7, _, n7, c7, nb2, cb2, R - T, T, rfl, rfl, rfl, H7, HO7, HG5, .inr HTo.out, by omega, by omega, HE7⟩
end Go.Proofs.YtbhenelehhiakaaGreat
namespace Go.Proofs.YtbhenelehhiakaaGreat
open Go.RowKit
set_option maxHeartbeats 1000000 in
theorem zintAbs_any (b : Bool) (B : Nat) (w : World) (a : Option Addr) (n c : Nat) (l : Nt) (h : NatS B w a n c l) (hn : n ≤ 17592186044416) :
  Calls Tryz.prog 111 #[.agg #[.bool b, .slice a n c]] w (RInt w (ival b l).natAbs) := by
 go_enter Tryz.func111, Tryz.ntmps111
 go_wp2_with fail
 have p0 := Blk.new w 25 #[.bool b, .slice a n c]
 have r := Blk.new (w.alloc (Obj.cells #[.bool b, .slice a n c] 25)) 25 #[.bool false, .slice none 0 0]
 replace p0 := p0.ext ((Below.refl _ _).alloc (Nat.le_refl _) (Obj.cells #[.bool false, .slice none 0 0] 25))
 have hEW : Ext w ((w.alloc (Obj.cells #[.bool b, .slice a n c] 25)).alloc (Obj.cells #[.bool false, .slice none 0 0] 25)) := (((Below.refl _ w).alloc (by simp) _).alloc (by simp) _)
 generalize hgW : (w.alloc (Obj.cells #[.bool b, .slice a n c] 25)).alloc (Obj.cells #[.bool false, .slice none 0 0] 25) = W at *
 clear hgW
 simp only [World.size_alloc] at r
 have p0_ne_r : ¬ w.heap.size = w.heap.size + 1 := by omega
 have r_ne_p0 : ¬ w.heap.size + 1 = w.heap.size := by omega
 replace p0_0 := p0.cell (i := 0) rfl
 replace p0_1 := p0.cell (i := 1) rfl
 replace r_0 := r.cell (i := 0) rfl
 replace r_1 := r.cell (i := 1) rfl
 replace r_f0 := r.free 0
 replace r_f1 := r.free 1
 replace r_lt := r.lt
 have hrB := r_lt
 refine (natNorm_any B W a n c l (h.ext (Nat.le_refl _) hEW) hn).mono ?_
 rintro e w1 ⟨a3, n3, c3, rfl, h3, hE1⟩
 replace p0 := p0.ext hE1; replace p0_0 := p0.cell (i := 0) rfl; replace p0_1 := p0.cell (i := 1) rfl; replace r := r.ext hE1; replace r_0 := r.cell (i := 0) rfl; replace r_1 := r.cell (i := 1) rfl; replace r_f0 := r.free 0; replace r_f1 := r.free 1; replace r_lt := r.lt
 go_wp2_with fail
 refine (make1_any _ _ _ _ _).mono ?_
 rintro e w2 ⟨rfl, hE2⟩
 replace p0 := p0.ext hE2; replace p0_0 := p0.cell (i := 0) rfl; replace p0_1 := p0.cell (i := 1) rfl; replace r := r.ext hE2; replace r_0 := r.cell (i := 0) rfl; replace r_1 := r.cell (i := 1) rfl; replace r_f0 := r.free 0; replace r_f1 := r.free 1; replace r_lt := r.lt
 have HF := Lib.hid (RInt.box (w := w) (w2 := w2) (r := w.heap.size + 1) (u := .bool (false && decide (0 < n3))) (v := .slice a3 n3 c3) (by omega) hrB (Ext.trans hEW (Ext.trans hE1 hE2)) (h3.ext (Nat.le_refl _) hE2) (s := false) (z := ((ival b l).natAbs : Int)) (by rw [ival_neg rfl]; rfl) rfl)
 clear h h3 hE1 hE2 hEW
 simp only [Bool.false_and] at *
 have r2 : Blk (((w2).setCell ⟨w.heap.size + 1, 0, none⟩ (.bool false)).setCell ⟨w.heap.size + 1, 1, none⟩ (.slice a3 n3 c3)) _ _ #[.bool false, .slice a3 n3 c3] := ((r).set 0 (.bool false)).set 1 (.slice a3 n3 c3)
 have hr0 := r2.cell (i := 0) rfl
 have hr1 := r2.cell (i := 1) rfl
 go_wp2_with fail
 exact bodyPost_ret (v := .agg #[.bool false, .slice a3 n3 c3]) (by simp [results, Tryz.results111, go_sem, hr0, hr1]) rfl HF.out
set_option maxHeartbeats 1000000 in
theorem zgcd_any (b b2 : Bool) (B : Nat) (w : World) (a a2 : Option Addr) (n c n2 c2 : Nat) (l l2 : Nt) (h : NatS B w a n c l) (h2 : NatS B w a2 n2 c2 l2) (hn : n ≤ 8796093022208) (hn2 : n2 ≤ 8796093022208) :
  Calls Tryz.prog 135 #[.agg #[.bool b, .slice a n c], .agg #[.bool b2, .slice a2 n2 c2]] w (RInt w (Nat.gcd (ival b l).natAbs (ival b2 l2).natAbs : Nat)) := by
 go_enter Tryz.func135, Tryz.ntmps135
 go_wp2_with fail
 have p0 := Blk.new w 25 #[.bool b, .slice a n c]
 have p1 := Blk.new (w.alloc (Obj.cells #[.bool b, .slice a n c] 25)) 25 #[.bool b2, .slice a2 n2 c2]
 replace p0 := p0.ext ((Below.refl _ _).alloc (Nat.le_refl _) (Obj.cells #[.bool b2, .slice a2 n2 c2] 25))
 have r := Blk.new ((w.alloc (Obj.cells #[.bool b, .slice a n c] 25)).alloc (Obj.cells #[.bool b2, .slice a2 n2 c2] 25)) 25 #[.bool false, .slice none 0 0]
 replace p0 := p0.ext ((Below.refl _ _).alloc (Nat.le_refl _) (Obj.cells #[.bool false, .slice none 0 0] 25))
 replace p1 := p1.ext ((Below.refl _ _).alloc (Nat.le_refl _) (Obj.cells #[.bool false, .slice none 0 0] 25))
 have hEW : Ext w (((w.alloc (Obj.cells #[.bool b, .slice a n c] 25)).alloc (Obj.cells #[.bool b2, .slice a2 n2 c2] 25)).alloc (Obj.cells #[.bool false, .slice none 0 0] 25)) := ((((Below.refl _ w).alloc (by simp) _).alloc (by simp) _).alloc (by simp; omega) _)
 generalize hgW : ((w.alloc (Obj.cells #[.bool b, .slice a n c] 25)).alloc (Obj.cells #[.bool b2, .slice a2 n2 c2] 25)).alloc (Obj.cells #[.bool false, .slice none 0 0] 25) = W at *
 clear hgW
 simp only [World.size_alloc] at p1 r
 have p0_ne_p1 : ¬ w.heap.size = w.heap.size + 1 := by omega
 have p0_ne_r : ¬ w.heap.size = w.heap.size + 1 + 1 := by omega
 have p1_ne_p0 : ¬ w.heap.size + 1 = w.heap.size := by omega
 have p1_ne_r : ¬ w.heap.size + 1 = w.heap.size + 1 + 1 := by omega
 have r_ne_p0 : ¬ w.heap.size + 1 + 1 = w.heap.size := by omega
 have r_ne_p1 : ¬ w.heap.size + 1 + 1 = w.heap.size + 1 := by omega
 replace p0_0 := p0.cell (i := 0) rfl
 replace p0_1 := p0.cell (i := 1) rfl
 replace p1_0 := p1.cell (i := 0) rfl
 replace p1_1 := p1.cell (i := 1) rfl
 replace r_0 := r.cell (i := 0) rfl
 replace r_1 := r.cell (i := 1) rfl
 replace r_f0 := r.free 0
 replace r_f1 := r.free 1
 replace r_lt := r.lt
 have hrB := r_lt
 refine (natGcd_aux B W a a2 n c n2 c2 l l2 (h.ext (Nat.le_refl _) hEW) (h2.ext (Nat.le_refl _) hEW) hn hn2 _ _ (Lib.hid rfl) (Lib.hid rfl)).mono ?_
 rintro e w1 ⟨a3, n3, c3, rfl, h3, hE1⟩
 replace p0 := p0.ext hE1; replace p0_0 := p0.cell (i := 0) rfl; replace p0_1 := p0.cell (i := 1) rfl; replace p1 := p1.ext hE1; replace p1_0 := p1.cell (i := 0) rfl; replace p1_1 := p1.cell (i := 1) rfl; replace r := r.ext hE1; replace r_0 := r.cell (i := 0) rfl; replace r_1 := r.cell (i := 1) rfl; replace r_f0 := r.free 0; replace r_f1 := r.free 1; replace r_lt := r.lt
 go_wp2_with fail
 refine (make1_any _ _ _ _ _).mono ?_
 rintro e w2 ⟨rfl, hE2⟩
 replace p0 := p0.ext hE2; replace p0_0 := p0.cell (i := 0) rfl; replace p0_1 := p0.cell (i := 1) rfl; replace p1 := p1.ext hE2; replace p1_0 := p1.cell (i := 0) rfl; replace p1_1 := p1.cell (i := 1) rfl; replace r := r.ext hE2; replace r_0 := r.cell (i := 0) rfl; replace r_1 := r.cell (i := 1) rfl; replace r_f0 := r.free 0; replace r_f1 := r.free 1; replace r_lt := r.lt
 have HF := Lib.hid (RInt.box (w := w) (w2 := w2) (r := w.heap.size + 1 + 1) (u := .bool (false && decide (0 < n3))) (v := .slice a3 n3 c3) (by omega) hrB (Ext.trans hEW (Ext.trans hE1 hE2)) (h3.ext (Nat.le_refl _) hE2) (s := false) (z := (Nat.gcd (ival b l).natAbs (ival b2 l2).natAbs : Nat)) (by rw [ival_neg rfl, ival_neg rfl]; rfl) rfl)
 clear h h2 h3 hE1 hE2 hEW
 simp only [Bool.false_and] at *
 have r2 : Blk (((w2).setCell ⟨w.heap.size + 1 + 1, 0, none⟩ (.bool false)).setCell ⟨w.heap.size + 1 + 1, 1, none⟩ (.slice a3 n3 c3)) _ _ #[.bool false, .slice a3 n3 c3] := ((r).set 0 (.bool false)).set 1 (.slice a3 n3 c3)
 have hr0 := r2.cell (i := 0) rfl
 have hr1 := r2.cell (i := 1) rfl
 go_wp2_with fail
 exact bodyPost_ret (v := .agg #[.bool false, .slice a3 n3 c3]) (by simp [results, Tryz.results135, go_sem, hr0, hr1]) rfl HF.out
theorem sign_of (b : Bool) (l : Nt) : (ival b l).sign = if val l = 0 then 0 else if b then -1 else 1 := by
 unfold ival
 by_cases h : val l = 0
 ·rw [if_pos h, h]; cases b <;> rfl
 ·rw [if_neg h]; cases b
  ·simp only [Bool.false_eq_true, if_false]; exact Int.sign_eq_one_of_pos (by omega)
  ·simp only [if_true, Int.sign_neg]; rw [Int.sign_eq_one_of_pos (by omega)]
set_option maxHeartbeats 1000000 in
theorem zintSign_any (b : Bool) (B : Nat) (w : World) (a : Option Addr) (n c : Nat) (l : Nt) (h : NatS B w a n c l) (hn : n ≤ 17592186044416) :
  Calls Tryz.prog 86 #[.agg #[.bool b, .slice a n c]] w fun e w' => e = .returned (.int .i64 (ival b l).sign) ∧ Ext w w' := by
 have HS := Lib.hid (sign_of b l)
 generalize hz : (ival b l).sign = z at *
 clear hz
 go_enter Tryz.func86, Tryz.ntmps86
 go_wp2_with fail
 have p0 := Blk.new w 25 #[.bool b, .slice a n c]
 have hEW : Ext w (w.alloc (Obj.cells #[.bool b, .slice a n c] 25)) := ((Below.refl _ w).alloc (by simp) _)
 generalize hgW : w.alloc (Obj.cells #[.bool b, .slice a n c] 25) = W at *
 clear hgW
 replace p0_0 := p0.cell (i := 0) rfl
 replace p0_1 := p0.cell (i := 1) rfl
 refine (natLen_aux B W a n c l (h.ext (Nat.le_refl _) hEW) hn _ (Lib.hid rfl)).mono ?_
 rintro e w1 ⟨rfl, hE1⟩
 replace p0 := p0.ext hE1; replace p0_0 := p0.cell (i := 0) rfl; replace p0_1 := p0.cell (i := 1) rfl
 have HE := Lib.hid (Ext.trans hEW hE1)
 clear hE1 hEW h
 by_cases h0 : val l = 0
 ·have hz := HS.out
  rw [if_pos h0] at hz
  subst hz
  rw [h0, blen_zero]
  clear HS h0
  go_wp2_with fail
  go_ret
  exact ⟨rfl, HE.out⟩
 ·have hp : ((blen (val l) : Int) == 0) = false := by
   have := blen_pos (Nat.pos_of_ne_zero h0)
   simp; omega
  have hz := HS.out
  rw [if_neg h0] at hz
  clear HS
  generalize blen (val l) = k at *
  cases b
  ·simp at hz
   subst hz
   go_wp2_with fail
   go_ret
   exact ⟨rfl, HE.out⟩
  ·simp at hz
   subst hz
   go_wp2_with fail
   go_ret
   exact ⟨rfl, HE.out⟩
end Go.Proofs.YtbhenelehhiakaaGreat
