/-
  A part.
-/
import Derived.Maps.AppendAt
import Derived.Test.YtbhenelehhiakaaGreatSum6
set_option linter.unusedVariables false
set_option linter.unusedSimpArgs false
namespace Go.Proofs.YtbhenelehhiakaaGreat
open Go.RowKit

theorem add_end (x y m : Nat) (h1 : (limbs x).length ≤ m) (h2 : (limbs y).length ≤ m) : val (outs addOut addNxt 0 (limbs x) (limbs y) m ++ [stp addNxt 0 (limbs x) (limbs y) m]) = x + y := by
  have h := add_outs (limbs x) (limbs y) 0 m
  rw [List.take_of_length_le h1, List.take_of_length_le h2, val_limbs, val_limbs] at h
  rw [val_append, length_outs, val_one]
  omega

theorem stp_add_le {l l2 : List Nat} (hl : Small l) (hl2 : Small l2) (k : Nat) : stp addNxt 0 l l2 k ≤ 1 := by
  induction k with
  | zero => exact Nat.zero_le _
  | succ k ih => exact addNxt_le _ _ _ (hl.get k) (hl2.get k) ih

set_option maxRecDepth 100000 in
set_option maxHeartbeats 400000 in
theorem natAdd_aux (B : Nat) (w : World) (a a2 : Option Addr) (n c n2 c2 : Nat) (l l2 : Nt) (h : NatS B w a n c l) (h2 : NatS B w a2 n2 c2 l2) (hn : n ≤ 8796093022208) (hn2 : n2 ≤ 8796093022208) (x y : Nat) (hx : Hid (val l = x)) (hy : Hid (val l2 = y)) :
    Calls Tryz.prog 127 #[.slice a n c, .slice a2 n2 c2] w (RNat w (x + y)) := by
  have hen : Enters Tryz.prog 146 := enters_mk Tryz.func146 (by kernel_rfl) rfl
  obtain ⟨i0, hi, hz0, hz1, hz2⟩ := info_parts info_u32
  have hE0 : Ext w (w.alloc (.cells #[.int .u32 0] 126)) := (Below.refl _ w).alloc (Nat.le_refl _) _
  go_enter Tryz.func127, Tryz.ntmps127
  go_wp2_with fail
  refine (trim_all B _ a n c l (h.ext (Nat.le_refl _) hE0)).mono ?_
  rintro e w1 ⟨k, rfl, ⟨hk, hN⟩, rfl⟩
  go_wp2_with fail
  refine (trim_all B _ a2 n2 c2 l2 (h2.ext (Nat.le_refl _) hE0)).mono ?_
  rintro e w1 ⟨k2, rfl, ⟨hk2, hN2⟩, rfl⟩
  have hN := hN _ _ h
  have hN2 := hN2 _ _ h2
  rw [hx.out] at hN
  rw [hy.out] at hN2
  have hl1 := hN.len
  have hl2 := hN2.len
  have hend := Lib.hid (add_end x y (max k k2) (by omega) (by omega))
  have hsl := stp_add_le (small_limbs x) (small_limbs y) (max k k2)
  have hm : max k k2 ≤ 8796093022208 := by omega
  go_wp2_with fail
  refine (each_any 146 addOut addNxt addNxt_le hen (Lib.hid add1_any) B w _ a a2 k c k2 c2 _ _ hN hN2 hE0 w.heap.size (Nat.le_refl _) (Blk.new _ _ _) (max k k2) rfl (by omega)).mono ?_
  rintro e w1 ⟨rfl, hb1, hb2, hg⟩
  have hL := length_outs addOut addNxt 0 (limbs x) (limbs y) (max k k2)
  have hS := small_outs addOut addNxt 0 (limbs x) (limbs y) addOut_lt (max k k2)
  generalize hm' : max k k2 = m at *
  generalize hL' : outs addOut addNxt 0 (limbs x) (limbs y) m = L at *
  generalize hs' : stp addNxt 0 (limbs x) (limbs y) m = s at *
  clear hm' hL' hs' hN hN2 hl1 hl2 h h2
  have hLl := Lib.hid hL
  have hsz := hb1.lt
  have hsz2 := hb2.lt
  have hcs : w1.cell? ⟨w.heap.size, 0, none⟩ = some (.int .u32 (s : Int)) := hb2.word (l := [s]) (i := 0) (by simp)
  simp only [World.size_alloc] at hsz hb1
  have hown := owns_of_blk (base := w.heap.size) (n := m) (c := m + 1) hb1 (by omega) hL (by simp [hL]) (by omega)
  have HOWN := Lib.hid hown
  have HG := Lib.hid hg
  clear hown hb1 hb2 hg hL
  go_wp2_with (refine wpList_append_fits _ rfl (.tmp 13) (.tmp 15) 23 rfl w.heap.size 126 i0 1 under_nat hi hz1 (w.heap.size + 1) m (m + 1) _ rfl (HOWN.out.alloc _) ⟨w1.heap.size, 0, none⟩ 1 1 [.int .u32 (s : Int)] rfl rfl (cell_one_new _ _ _) (by simp [Value.oneCell']) (Nat.le_refl _) ?_; intro w2 hown2 hgrow2)
  have hN2 : NatS w.heap.size w2 (some ⟨w.heap.size + 1, 0, none⟩) (m + 1) (m + 1) (L ++ [s]) := natS_of_owns (by rw [List.map_append]; exact hown2) (hS.append (small_cons (by omega) small_nil))
  have hE1 : Ext w w1 := Below.trans hE0 (below_of_grown HG.out (by simp) (fun j e => by cases e; exact Nat.le_refl _))
  have hE2 : Ext w w2 := (hE1.alloc hE1.size _).grown hgrow2 (by have := hE1.size; simp; omega) (fun j e => by cases e; omega)
  refine (own_any w.heap.size w2 _ (m + 1) (m + 1) (L ++ [s]) hN2 (by omega)).mono ?_
  rintro e w3 ⟨a3, n3, c3, rfl, h3, hE3⟩
  rw [hend.out] at h3
  have HF := Lib.hid (RNat.intro (h3.mono hE2.size (Kept.refl _ _)) (hE2.trans hE3))
  clear h3 hE3 hE2 hE1 hE0 hN2 hown2 hgrow2
  go_wp2_with fail
  go_ret
  exact HF.out

theorem natAdd_any (B : Nat) (w : World) (a a2 : Option Addr) (n c n2 c2 : Nat) (l l2 : Nt) (h : NatS B w a n c l) (h2 : NatS B w a2 n2 c2 l2) (hn : n ≤ 8796093022208) (hn2 : n2 ≤ 8796093022208) :
    Calls Tryz.prog 127 #[.slice a n c, .slice a2 n2 c2] w (RNat w (val l + val l2)) := natAdd_aux B w a a2 n c n2 c2 l l2 h h2 hn hn2 _ _ (Lib.hid rfl) (Lib.hid rfl)

theorem subNxt_le1 (s x y : Nat) (_ : x < 4294967296) (_ : y < 4294967296) (_ : s ≤ 1) : subNxt s x y ≤ 1 := subNxt_le s x y

set_option maxRecDepth 100000 in
set_option maxHeartbeats 400000 in
theorem natLess_aux (B : Nat) (w : World) (a a2 : Option Addr) (n c n2 c2 : Nat) (l l2 : Nt) (h : NatS B w a n c l) (h2 : NatS B w a2 n2 c2 l2) (hn : n ≤ 8796093022208) (hn2 : n2 ≤ 8796093022208) (x y : Nat) (hx : Hid (val l = x)) (hy : Hid (val l2 = y)) (hxy : y ≤ x) :
    Calls Tryz.prog 161 #[.slice a n c, .slice a2 n2 c2] w (RNat w (x - y)) := by
  have hen : Enters Tryz.prog 168 := enters_mk Tryz.func168 (by kernel_rfl) rfl
  have hE0 : Ext w (w.alloc (.cells #[.int .u32 0] 126)) := (Below.refl _ w).alloc (Nat.le_refl _) _
  go_enter Tryz.func161, Tryz.ntmps161
  go_wp2_with fail
  refine (trim_all B _ a n c l (h.ext (Nat.le_refl _) hE0)).mono ?_
  rintro e w1 ⟨k, rfl, ⟨hk, hN⟩, rfl⟩
  go_wp2_with fail
  refine (trim_all B _ a2 n2 c2 l2 (h2.ext (Nat.le_refl _) hE0)).mono ?_
  rintro e w1 ⟨k2, rfl, ⟨hk2, hN2⟩, rfl⟩
  have hN := hN _ _ h
  have hN2 := hN2 _ _ h2
  rw [hx.out] at hN
  rw [hy.out] at hN2
  have hl1 := hN.len
  have hl2 := hN2.len
  have hend := Lib.hid (sub_end (small_limbs x) (small_limbs y) (by rw [val_limbs, val_limbs]; exact hxy) (max k k2) (by omega) (by omega))
  have hm : max k k2 ≤ 8796093022208 := by omega
  go_wp2_with fail
  refine (each_any 168 subOut subNxt subNxt_le1 hen (Lib.hid less1_any) B w _ a a2 k c k2 c2 _ _ hN hN2 hE0 w.heap.size (Nat.le_refl _) (Blk.new _ _ _) (max k k2) rfl (by omega)).mono ?_
  rintro e w1 ⟨rfl, hb1, hb2, hg⟩
  have hL := length_outs subOut subNxt 0 (limbs x) (limbs y) (max k k2)
  have hS := small_outs subOut subNxt 0 (limbs x) (limbs y) subOut_lt (max k k2)
  generalize hm' : max k k2 = m at *
  generalize hL' : outs subOut subNxt 0 (limbs x) (limbs y) m = L at *
  clear hm' hL' hN hN2 hl1 hl2 h h2 hb2
  have hsz := hb1.lt
  simp only [World.size_alloc] at hsz hb1
  have HB := Lib.hid hb1
  have HL := Lib.hid hL
  have HG := Lib.hid hg
  clear hL hb1 hg
  go_wp2_with fail
  have hN2 : NatS w.heap.size w1 (some ⟨w.heap.size + 1, 0, none⟩) m (m + 1) L := by
    have := HB.out.nat (B := w.heap.size) (by omega) (hS.append (small_cons (by omega) small_nil)) m (by rw [List.length_append, HL.out]; omega) (by omega) (c := m + 1) (by omega)
    rwa [List.take_append_of_le_length (by rw [HL.out]; omega), List.take_of_length_le (by rw [HL.out]; omega)] at this
  have hE1 : Ext w w1 := Below.trans hE0 (below_of_grown HG.out (by simp) (fun j e => by cases e; exact Nat.le_refl _))
  refine (own_any w.heap.size w1 _ m (m + 1) L hN2 (by omega)).mono ?_
  rintro e w3 ⟨a3, n3, c3, rfl, h3, hE3⟩
  rw [hend.out, val_limbs, val_limbs] at h3
  have HF := Lib.hid (RNat.intro (h3.mono hE1.size (Kept.refl _ _)) (hE1.trans hE3))
  clear h3 hE3 hE1 hE0 hN2
  go_wp2_with fail
  go_ret
  exact HF.out

set_option maxHeartbeats 400000 in
theorem natSub_aux (B : Nat) (w : World) (a a2 : Option Addr) (n c n2 c2 : Nat) (l l2 : Nt) (h : NatS B w a n c l) (h2 : NatS B w a2 n2 c2 l2) (hn : n ≤ 8796093022208) (hn2 : n2 ≤ 8796093022208) (x y : Nat) (hx : Hid (val l = x)) (hy : Hid (val l2 = y)) (hxy : y ≤ x) :
    Calls Tryz.prog 148 #[.slice a n c, .slice a2 n2 c2] w fun e w' => ∃ a' n' c', e = .returned (.tuple #[.slice a' n' c', .int .i64 0]) ∧ NatS w.heap.size w' a' n' c' (limbs (x - y)) ∧ Ext w w' := by
  have hc : decide (cmpI x y < 0) = false := by
    rw [decide_eq_false_iff_not]; unfold cmpI; rw [if_neg (by omega)]; split <;> omega
  generalize hz : cmpI x y = z at *
  go_enter Tryz.func148, Tryz.ntmps148
  go_wp2_with fail
  refine (cmp_aux B w a a2 n c n2 c2 l l2 h h2 x y hx hy).mono ?_
  rintro e w1 ⟨rfl, hE⟩
  rw [hz]
  go_wp2_with fail
  refine (natLess_aux B w1 a a2 n c n2 c2 l l2 (h.ext (Nat.le_refl _) hE) (h2.ext (Nat.le_refl _) hE) hn hn2 x y hx hy hxy).mono ?_
  rintro e w2 ⟨a3, n3, c3, rfl, h3, hE3⟩
  have HF := Lib.hid (h3.mono hE.size (Kept.refl _ _))
  have HE := Lib.hid (hE.trans hE3)
  clear h3 hE3 hE
  go_wp2_with fail
  go_ret2
  exact ⟨_, _, _, rfl, HF.out, HE.out⟩
end Go.Proofs.YtbhenelehhiakaaGreat
namespace Go.Proofs.YtbhenelehhiakaaGreat
open Go.RowKit

set_option maxRecDepth 100000 in
set_option maxHeartbeats 1000000 in
theorem natMul_aux (B : Nat) (w : World) (a a2 : Option Addr) (n c n2 c2 : Nat) (l l2 : Nt) (h : NatS B w a n c l) (h2 : NatS B w a2 n2 c2 l2) (hn : n ≤ 8796093022208) (hn2 : n2 ≤ 8796093022208) (x y : Nat) (hx : Hid (val l = x)) (hy : Hid (val l2 = y)) :
    Calls Tryz.prog 115 #[.slice a n c, .slice a2 n2 c2] w (RNat w (x * y)) := by
  go_enter Tryz.func115, Tryz.ntmps115
  go_wp2_with fail
  refine (trim_any B _ a n c l h).mono ?_
  rintro e w1 ⟨k, rfl, hN, rfl⟩
  go_wp2_with fail
  refine (trim_any B _ a2 n2 c2 l2 h2).mono ?_
  rintro e w1 ⟨k2, rfl, hN2, rfl⟩
  have hkn : k ≤ n := by have := hN.len; have := nl_val h.small; have := h.len; rw [length_limbs] at *; omega
  have hkn2 : k2 ≤ n2 := by have := hN2.len; have := nl_val h2.small; have := h2.len; rw [length_limbs] at *; omega
  rw [hx.out] at hN
  rw [hy.out] at hN2
  clear h h2 hx hy
  have HL := Lib.hid hN.len
  have HL2 := Lib.hid hN2.len
  by_cases hk0 : k = 0
  · have hx0 : x = 0 := limbs_eq_nil.1 (List.eq_nil_of_length_eq_zero (by rw [HL.out]; exact hk0))
    subst hk0
    have HF := Lib.hid (RNat.intro (w := w) (w' := w) (x := x * y) (a := none) (c := 0) (n := 0) (by rw [hx0, Nat.zero_mul]; exact natS_nil _ _) (Ext.refl _))
    clear hx0
    go_wp2_with fail
    go_ret
    exact HF.out
  · have hk0' : (((k : Nat) : Int) == 0) = false := by simpa using hk0
    by_cases hk20 : k2 = 0
    · have hy0 : y = 0 := limbs_eq_nil.1 (List.eq_nil_of_length_eq_zero (by rw [HL2.out]; exact hk20))
      subst hk20
      have HF := Lib.hid (RNat.intro (w := w) (w' := w) (x := x * y) (a := none) (c := 0) (n := 0) (by rw [hy0, Nat.mul_zero]; exact natS_nil _ _) (Ext.refl _))
      clear hy0
      go_wp2_with fail
      go_ret
      exact HF.out
    · have hk20' : (((k2 : Nat) : Int) == 0) = false := by simpa using hk20
      obtain ⟨b, o, rfl, _, hb1, hc1, _⟩ := hN.pos (by omega)
      obtain ⟨b2, o2, rfl, _, hb2, hc2, _⟩ := hN2.pos (by omega)
      have hmk := fun w => make_words under_nat info_u32 (k + k2) (k + k2) (Nat.le_refl _) (by omega) w
      rw [show (((k + k2 : Nat)) : Int) = (k : Int) + (k2 : Int) from by omega] at hmk
      clear hN hN2
      go_wp2_with fail
      have hst := Lib.hid (small_limbs x)
      have hst2 := Lib.hid (small_limbs y)
      go_loopw [32] (fun i wr => ∃ j : Nat, j ≤ k ∧ i = .int .i64 (j : Int) ∧ Hid (∃ O : List Nat, O.length = k + k2 ∧ Small O ∧ Blk wr w.heap.size 126 (words O) ∧ val O = val ((limbs x).take j) * y ∧ ∀ t, j + k2 ≤ t → O[t]?.getD 0 = 0) ∧ Hid (Ext w wr)) (fun i _ => k - (intOf i).toNat)
      case atStart =>
        refine ⟨0, Nat.zero_le _, rfl, Lib.hid ⟨List.replicate (k + k2) 0, by simp, small_replicate _, Blk.new _ _ _, by rw [val_replicate]; simp [val], fun t _ => ?_⟩, Lib.hid ((Below.refl _ _).alloc (Nat.le_refl _) _)⟩
        rw [List.getElem?_replicate]; split <;> rfl
      case round =>
        obtain ⟨j, hj, rfl, hO, hE⟩ := hrel
        by_cases hjk : j < k
        · have hcx := (hE.out.cell (p := ⟨b, o + j, none⟩) hb1).trans (hc1 j hjk)
          have hxj := hst.out.get j
          have hXj : Hid ((limbs x)[j]?.getD 0 = (limbs x)[j]?.getD 0) := Lib.hid rfl
          generalize hxx : (limbs x)[j]?.getD 0 = xj at hcx hxj hXj
          have HX := Lib.hid hxx
          clear hxx hXj
          go_wp2_with fail
          obtain ⟨wo, rfl⟩ : ∃ wo : World, wo = wr := ⟨_, rfl⟩
          go_loopw [8, 39] (fun cs i wr => ∃ (j2 cc : Nat), j2 ≤ k2 ∧ i = .int .i64 (j2 : Int) ∧ cs = .int .u64 (cc : Int) ∧ cc < 4294967296 ∧ Hid (∃ O : List Nat, O.length = k + k2 ∧ Small O ∧ Blk wr w.heap.size 126 (words O) ∧ val O + 4294967296 ^ (j + j2) * cc = val ((limbs x).take j) * y + 4294967296 ^ j * (xj * val ((limbs y).take j2)) ∧ ∀ t, j + k2 ≤ t → O[t]?.getD 0 = 0) ∧ Hid (Ext w wr)) (fun _ i _ => k2 - (intOf i).toNat)
          case atStart =>
            obtain ⟨O, h1, h2, h3, h4, h5⟩ := hO.out
            exact ⟨0, 0, Nat.zero_le _, rfl, rfl, by omega, Lib.hid ⟨O, h1, h2, h3, by simp [h4, val], h5⟩, hE⟩
          case round =>
            obtain ⟨j2, cc, hj2, rfl, rfl, hcc, hO2, hE2⟩ := hrel
            clear hO hcx
            by_cases hj2k : j2 < k2
            · have hcy := (hE2.out.cell (p := ⟨b2, o2 + j2, none⟩) hb2).trans (hc2 j2 hj2k)
              have hyj := hst2.out.get j2
              generalize hyy : (limbs y)[j2]?.getD 0 = yj at hcy hyj
              have HY := Lib.hid hyy
              clear hyy
              obtain ⟨O, h1, h2, h3, h4, h5⟩ := hO2.out
              have hco := h3.word (i := j + j2) (by omega)
              have hoj := h2.get (j + j2)
              have hfr := h3.free (j + j2)
              have hround := Lib.hid (mul_round (by omega) h4 HY.out)
              have hO5 := Lib.hid h5
              have hlen := Lib.hid h1
              have hsm := Lib.hid h2
              have hblk := Lib.hid h3
              have hwlt := h3.lt
              have hmul0 : 0 ≤ (xj : Int) * (yj : Int) := Int.mul_nonneg (by omega) (by omega)
              generalize hoo : O[j + j2]?.getD 0 = oo at *
              clear hoo
              have hbd := carry_lt hxj hyj hoj hcc
              have hmul1 : (xj : Int) * (yj : Int) + oo + cc < 18446744073709551616 := by have : ((xj * yj : Nat) : Int) = (xj : Int) * yj := Int.natCast_mul _ _; omega
              have hcast : Hid (∀ d : Int, ((xj : Int) * yj + oo + cc) % 4294967296 = (((xj * yj + oo + cc) % 4294967296 : Nat) : Int) ∧ ((xj : Int) * yj + oo + cc) / 4294967296 = (((xj * yj + oo + cc) / 4294967296 : Nat) : Int)) := Lib.hid fun _ => by
                have : ((xj * yj : Nat) : Int) = (xj : Int) * yj := Int.natCast_mul _ _
                omega
              have hdivlt : (xj * yj + oo + cc) / 4294967296 < 4294967296 := by omega
              clear h1 h2 h3 h4 h5 hO2 hbd
              go_wp2_with fail
              go_roundw
              case rel =>
                refine ⟨j2 + 1, _, by omega, by go_num, by rw [(hcast.out 0).2], hdivlt, Lib.hid ⟨O.set (j + j2) ((xj * yj + oo + cc) % 4294967296), by rw [List.length_set, hlen.out], hsm.out.set _ (Nat.mod_lt _ (by decide)), ?_, hround.out, fun t ht => ?_⟩, Lib.hid (hE2.out.setCell (Nat.le_refl _) _)⟩
                · have := hblk.out.set (j + j2) (.int .u32 (((xj * yj + oo + cc) % 4294967296 : Nat) : Int))
                  rw [words_set] at this
                  rw [(hcast.out 0).1]
                  exact this
                · rw [get_set_ne (by omega)]; exact hO5.out t ht
              case measure => simp [intOf]; omega
            · obtain rfl : j2 = k2 := by omega
              obtain ⟨O, h1, h2, h3, h4, h5⟩ := hO2.out
              have hco := h3.word (i := j + j2) (by omega)
              have hfr := h3.free (j + j2)
              have hend := Lib.hid (mul_end (X := limbs x) (by omega) HL2.out h4 (val_limbs y) HX.out (h5 _ (Nat.le_refl _)) rfl)
              have hO5 := Lib.hid h5
              have hlen := Lib.hid h1
              have hsm := Lib.hid h2
              have hblk := Lib.hid h3
              have hwlt := h3.lt
              clear h1 h2 h3 h4 h5 hO2
              go_wp2_with fail
              go_roundw
              case rel =>
                refine ⟨j + 1, by omega, by go_num, Lib.hid ⟨O.set (j + j2) cc, by rw [List.length_set, hlen.out], hsm.out.set _ hcc, ?_, hend.out, fun t ht => ?_⟩, Lib.hid (hE2.out.setCell (Nat.le_refl _) _)⟩
                · have := hblk.out.set (j + j2) (.int .u32 (cc : Int))
                  rw [words_set] at this
                  exact this
                · rw [get_set_ne (by omega)]; exact hO5.out t (by omega)
              case measure => simp [intOf]; omega
        · obtain rfl : j = k := by omega
          obtain ⟨O, h1, h2, h3, h4, h5⟩ := hO.out
          rw [List.take_of_length_le (by rw [HL.out]; omega), val_limbs] at h4
          have hNO : NatS w.heap.size wr (some ⟨w.heap.size, 0, none⟩) (j + k2) (j + k2) O := by
            have := h3.nat (B := w.heap.size) (Nat.le_refl _) h2 (j + k2) (by omega) (Nat.le_refl _) (by omega)
            rwa [List.take_of_length_le (by omega)] at this
          have H4 := Lib.hid h4
          clear h1 h2 h3 h4 h5 hO
          go_wp2_with fail
          refine (own_any w.heap.size wr _ (j + k2) (j + k2) O hNO (by omega)).mono ?_
          rintro e w3 ⟨a3, n3, c3, rfl, h3, hE3⟩
          rw [H4.out] at h3
          have HF := Lib.hid (RNat.intro (h3.mono hE.out.size (Kept.refl _ _)) (Ext.trans hE.out hE3))
          clear h3 hE3 hNO
          go_wp2_with fail
          go_ret
          exact HF.out

theorem natMul_any (B : Nat) (w : World) (a a2 : Option Addr) (n c n2 c2 : Nat) (l l2 : Nt) (h : NatS B w a n c l) (h2 : NatS B w a2 n2 c2 l2) (hn : n ≤ 8796093022208) (hn2 : n2 ≤ 8796093022208) :
    Calls Tryz.prog 115 #[.slice a n c, .slice a2 n2 c2] w (RNat w (val l * val l2)) := natMul_aux B w a a2 n c n2 c2 l l2 h h2 hn hn2 _ _ (Lib.hid rfl) (Lib.hid rfl)
end Go.Proofs.YtbhenelehhiakaaGreat
namespace Go.Proofs.YtbhenelehhiakaaGreat
open Go.RowKit

theorem or_join (r x : Nat) (hr : r < 4294967296) (hx : x < 4294967296) : bits .or .u64 ((r : Int) * 4294967296) (x : Int) = ((r * 4294967296 + x : Nat) : Int) := by
  have e : ((r : Int) * 4294967296) = ((r * 4294967296 : Nat) : Int) := by omega
  rw [e, u64_or_nat _ _ (by omega) (by omega), nat_join 32 (r * 4294967296) x (by omega) (by omega)]

theorem emod_small {q : Nat} (h : q < 4294967296) : (q : Int) % 4294967296 = (q : Int) := by omega

set_option maxRecDepth 100000 in
set_option maxHeartbeats 1000000 in
theorem short_any (B : Nat) (w : World) (a : Option Addr) (n c : Nat) (l : Nt) (h : NatS B w a n c l) (hn : n ≤ 17592186044416) (d : Nat) (hd : 0 < d) (hd2 : d < 4294967296) :
    Calls Tryz.prog 155 #[.slice a n c, .int .u32 (d : Int)] w fun e w' => ∃ a' n' c', e = .returned (.tuple #[.slice a' n' c', .int .u32 ((val l % d : Nat) : Int)]) ∧ NatS w.heap.size w' a' n' c' (limbs (val l / d)) ∧ Ext w w' := by
  have hmk := fun w => make_words under_nat info_u32 n n (Nat.le_refl _) (by omega) w
  have hlen := Lib.hid h.len
  have hsm := Lib.hid h.small
  have hpos := Lib.hid h.pos
  clear h
  go_enter Tryz.func155, Tryz.ntmps155
  go_wp2_with fail
  go_loopw [7, 8] (fun r i wr => ∃ (j rr : Nat), j ≤ n ∧ (∃ z : Int, i = .int .i64 z ∧ z = (j : Int) - 1) ∧ r = .int .u64 (rr : Int) ∧ rr < d ∧ Hid (∃ Q : List Nat, Q.length + j = n ∧ Small Q ∧ Blk wr w.heap.size 126 (words (List.replicate j 0 ++ Q)) ∧ val Q * d + rr = val (l.drop j)) ∧ Hid (Ext w wr)) (fun _ i _ => (intOf i + 1).toNat)
  case atStart =>
    refine ⟨n, 0, Nat.le_refl _, ⟨_, rfl, rfl⟩, rfl, hd, Lib.hid ⟨[], by simp, small_nil, by rw [List.append_nil]; exact Blk.new _ _ _, ?_⟩, Lib.hid ((Below.refl _ _).alloc (Nat.le_refl _) _)⟩
    rw [List.drop_of_length_le (by rw [hlen.out]; omega)]; simp [val]
  case round =>
    obtain ⟨j, rr, hj, ⟨z, rfl, hz⟩, rfl, hrr, hQ, hE⟩ := hrel
    by_cases h0 : j = 0
    · subst h0
      obtain rfl : z = -1 := by omega
      clear hz
      obtain ⟨Q, h1, h2, h3, h4⟩ := hQ.out
      rw [List.drop_zero] at h4
      have hq : val l / d = val Q ∧ val l % d = rr := by
        rw [← h4, Nat.mul_comm, Nat.add_comm]
        exact ⟨by rw [Nat.add_mul_div_left _ _ hd, Nat.div_eq_of_lt hrr, Nat.zero_add], by rw [Nat.add_mul_mod_self_left, Nat.mod_eq_of_lt hrr]⟩
      have HQ := Lib.hid hq
      have hNQ : NatS w.heap.size wr (some ⟨w.heap.size, 0, none⟩) n n Q := by
        have := h3.nat (B := w.heap.size) (Nat.le_refl _) (l := List.replicate 0 0 ++ Q) (by simpa using h2) n (by simp; omega) (Nat.le_refl _) (by omega)
        rw [List.take_of_length_le (by simp; omega)] at this
        simpa using this
      clear h1 h2 h3 h4 hQ hq hpos
      go_wp2_with fail
      refine (own_any w.heap.size wr _ n n Q hNQ (by omega)).mono ?_
      rintro e w3 ⟨a3, n3, c3, rfl, h3, hE3⟩
      have HF := Lib.hid (h3.mono hE.out.size (Kept.refl _ _))
      have HE := Lib.hid (Ext.trans hE.out hE3)
      have hrm : ((rr : Nat) : Int) % 4294967296 = (rr : Int) := by omega
      clear h3 hE3 hNQ
      go_wp2_with fail
      go_ret2
      exact ⟨_, _, _, by rw [HQ.out.2]; rfl, by rw [HQ.out.1]; exact HF.out, HE.out⟩
    · obtain ⟨i, rfl⟩ : ∃ i, j = i + 1 := ⟨j - 1, by omega⟩
      obtain rfl : z = (i : Int) := by omega
      clear hz
      obtain ⟨b, o, rfl, _, hb1, hc1, _⟩ := hpos.out (by omega)
      have hcx := (hE.out.cell (p := ⟨b, o + i, none⟩) hb1).trans (hc1 i (by omega))
      have hxi := hsm.out.get i
      generalize hxx : l[i]?.getD 0 = xi at hcx hxi
      have HX := Lib.hid hxx
      clear hxx
      obtain ⟨Q, h1, h2, h3, h4⟩ := hQ.out
      have hco := h3.cell (i := i) (words_get (by simp; omega))
      have hfr := h3.free i
      have hwlt := h3.lt
      have hor := or_join rr xi (by omega) hxi
      have hround := Lib.hid (short_round (by rw [hlen.out]; omega) HX.out h4)
      have hqlt := short_q hrr hxi
      have hrlt := Nat.mod_lt (rr * 4294967296 + xi) hd
      have hcast : Hid (∀ u : Int, ((rr : Int) * 4294967296 + xi) % d = (((rr * 4294967296 + xi) % d : Nat) : Int) ∧ ((rr : Int) * 4294967296 + xi) / d % 4294967296 = (((rr * 4294967296 + xi) / d : Nat) : Int)) := Lib.hid fun _ => by
        have e : (rr : Int) * 4294967296 + xi = ((rr * 4294967296 + xi : Nat) : Int) := by omega
        have e2 : ((rr * 4294967296 + xi : Nat) : Int) / (d : Int) = (((rr * 4294967296 + xi) / d : Nat) : Int) := (Int.natCast_ediv _ _).symm
        have e3 : ((rr * 4294967296 + xi : Nat) : Int) % (d : Int) = (((rr * 4294967296 + xi) % d : Nat) : Int) := (Int.natCast_emod _ _).symm
        rw [e, e2, e3]
        exact ⟨rfl, emod_small hqlt⟩
      have hlq := Lib.hid h1
      have hsq := Lib.hid h2
      have hblk := Lib.hid h3
      clear hQ h1 h2 h3 h4
      go_wp2_with fail
      go_roundw
      case rel =>
        refine ⟨i, _, by omega, ⟨_, rfl, rfl⟩, by rw [(hcast.out 0).1], hrlt, Lib.hid ⟨(rr * 4294967296 + xi) / d :: Q, by have := hlq.out; simp; omega, small_cons hqlt hsq.out, ?_, hround.out⟩, Lib.hid (hE.out.setCell (Nat.le_refl _) _)⟩
        have := hblk.out.set i (.int .u32 (((rr * 4294967296 + xi) / d : Nat) : Int))
        rw [words_set, set_fill] at this
        rw [(hcast.out 0).2]
        exact this
      case measure => simp [intOf]
end Go.Proofs.YtbhenelehhiakaaGreat
namespace Go.Proofs.YtbhenelehhiakaaGreat
open Go.RowKit

set_option maxRecDepth 100000 in
set_option maxHeartbeats 1000000 in
theorem left_any (B : Nat) (w : World) (a : Option Addr) (n c : Nat) (l : Nt) (h : NatS B w a n c l) (hn : n ≤ 8796093022208) (s : Nat) (hs : s < 32) (x : Nat) (hx : Hid (val l = x)) :
    Calls Tryz.prog 166 #[.slice a n c, .int .i64 (s : Int)] w fun e w' => ∃ R : List Nat, e = .returned (.slice (some ⟨w.heap.size, 0, none⟩) R.length (nl x + 3)) ∧ w'.ownsRow w.heap.size 126 1 (.slice (some ⟨w.heap.size, 0, none⟩) R.length (nl x + 3)) R.length (R.map fun x : Nat => Value.int .u32 (x : Int)) ∧ Small R ∧ val R = x * 2 ^ s ∧ (R.length = nl x ∨ R.length = nl x + 1 ∧ 4294967296 ^ nl x ≤ val R) ∧ Ext w w' := by
  obtain ⟨i0, hi, hz0, hz1, hz2⟩ := info_parts info_u32
  have hs1 : (s : Int) / 32 = 0 := by omega
  have hs2 : (s : Int) % 32 = (s : Int) := by omega
  go_enter Tryz.func166, Tryz.ntmps166
  go_wp2_with fail
  refine (trim_all B _ a n c l h).mono ?_
  rintro e w1 ⟨k, rfl, ⟨hk, hN⟩, rfl⟩
  have hN := hN _ _ h
  rw [hx.out] at hN
  have hlen := hN.len
  have hpos := Lib.hid hN.pos
  have hsm := Lib.hid (small_limbs x)
  rw [length_limbs] at hlen
  have HL := Lib.hid hlen
  clear h hx hN hlen
  have hmk := fun w => make_words under_nat info_u32 0 (k + 3) (by omega) (by omega) w
  have e1 : (((k + 3 : Nat) : Int)) = (k : Int) + 3 := by omega
  rw [e1] at hmk
  clear e1
  simp only [Int.natCast_zero] at hmk
  go_wp2_with fail
  go_loopw [5, 6, 22] (fun v cs i wr => ∃ (j cc : Nat), j ≤ k ∧ i = .int .i64 (j : Int) ∧ cs = .int .u32 (cc : Int) ∧ cc < 2 ^ s ∧ v = .slice (some ⟨w.heap.size, 0, none⟩) j (k + 3) ∧ Hid (∃ R : List Nat, R.length = j ∧ Small R ∧ wr.ownsRow w.heap.size 126 1 (.slice (some ⟨w.heap.size, 0, none⟩) j (k + 3)) j (R.map fun x : Nat => Value.int .u32 (x : Int)) ∧ val R + 4294967296 ^ j * cc = val ((limbs x).take j) * 2 ^ s) ∧ Hid (Ext w wr)) (fun _ _ i _ => k - (intOf i).toNat)
  case atStart =>
    refine ⟨0, 0, Nat.zero_le _, rfl, rfl, Nat.pow_pos (by decide), rfl, Lib.hid ⟨[], rfl, small_nil, ?_, by simp [val]⟩, Lib.hid ((Below.refl _ _).alloc (Nat.le_refl _) _)⟩
    exact owns_of_blk (l := []) (m := List.replicate (k + 3) 0) (Blk.new _ _ _) (Nat.le_refl _) rfl (by simp) (by omega)
  case round =>
    obtain ⟨j, cc, hj, rfl, rfl, hcc, rfl, hR, hE⟩ := hrel
    by_cases hjk : j < k
    · obtain ⟨b, o, rfl, _, hb1, hc1, _⟩ := hpos.out (by omega)
      have hcx := (hE.out.cell (p := ⟨b, o + j, none⟩) hb1).trans (hc1 j hjk)
      have hxi := hsm.out.get j
      generalize hxx : (limbs x)[j]?.getD 0 = xi at hcx hxi
      have HX := Lib.hid hxx
      clear hxx
      obtain ⟨R, h1, h2, h3, h4⟩ := hR.out
      have HR := Lib.hid h3
      clear h3
      have hround := Lib.hid (left_round h1 h4 HX.out)
      have hfit := left_fit (x := xi) hs hcc
      have hcar := left_carry (s := s) hxi
      have hjoin := left_low_mod (x := xi) hs
      have hps := pow_s_le hs
      have hlt := Nat.mod_lt (xi * 2 ^ s) (show 0 < 4294967296 by decide)
      have hor : bits .or .u32 ((xi : Int) * 2 ^ s % 4294967296) (cc : Int) = (((xi * 2 ^ s) % 4294967296 + cc : Nat) : Int) := by
        have e : ((xi : Int) * 2 ^ s % 4294967296) = (((xi * 2 ^ s) % 4294967296 : Nat) : Int) := by
          rw [Int.natCast_emod, Int.natCast_mul, Int.natCast_pow]; rfl
        rw [e, u32_or_nat _ _ hlt (by omega), nat_join s _ cc hjoin hcc]
      have hlR := Lib.hid h1
      have hsR := Lib.hid h2
      clear h1 h2 h4 hjoin hlt hR
      go_wp2_with (refine wpList_append_fits _ rfl (.tmp 26) (.tmp 33) 23 rfl w.heap.size 126 i0 1 under_nat hi hz1 w.heap.size j (k + 3) _ rfl (HR.out.alloc _) ⟨wr.heap.size, 0, none⟩ 1 1 [.int .u32 (((xi * 2 ^ s) % 4294967296 + cc : Nat) : Int)] rfl rfl (cell_one_new _ _ _) (by simp [Value.oneCell']) (by omega) ?_; intro w2 hown2 hgrow2)
      go_roundw
      case rel =>
        refine ⟨j + 1, _, by omega, by go_num, by rw [wrap_shl hxi hs], hcar, rfl, Lib.hid ⟨R ++ [(xi * 2 ^ s) % 4294967296 + cc], by rw [List.length_append, hlR.out]; rfl, hsR.out.append (small_cons hfit small_nil), by rw [List.map_append]; exact hown2, hround.out⟩, Lib.hid ((hE.out.alloc hE.out.size _).grown hgrow2 (by have := hE.out.size; simp; omega) (fun q e => by cases e; exact Nat.le_refl _))⟩
      case measure => simp [intOf]; omega
    · obtain rfl : j = k := by omega
      obtain ⟨R, h1, h2, h3, h4⟩ := hR.out
      rw [List.take_of_length_le (by rw [length_limbs, HL.out]; omega), val_limbs] at h4
      have HR := Lib.hid h3
      by_cases hc0 : cc = 0
      · subst hc0
        have HF := Lib.hid (show (∃ R : List Nat, Ending.returned (.slice (some ⟨w.heap.size, 0, none⟩) j (j + 3)) = .returned (.slice (some ⟨w.heap.size, 0, none⟩) R.length (nl x + 3)) ∧ wr.ownsRow w.heap.size 126 1 (.slice (some ⟨w.heap.size, 0, none⟩) R.length (nl x + 3)) R.length (R.map fun x : Nat => Value.int .u32 (x : Int)) ∧ Small R ∧ val R = x * 2 ^ s ∧ (R.length = nl x ∨ R.length = nl x + 1 ∧ 4294967296 ^ nl x ≤ val R) ∧ Ext w wr) from
          ⟨R, by rw [h1, HL.out], by rw [h1, HL.out]; exact h3, h2, by simpa using h4, Or.inl (by rw [h1, HL.out]), hE.out⟩)
        clear h1 h2 h3 h4 hR
        go_wp2_with fail
        go_ret
        exact HF.out
      · have hne : ((cc : Int) != 0) = true := by simp; omega
        have hps := pow_s_le hs
        have hv : val (R ++ [cc]) = x * 2 ^ s := by rw [val_append, val_one, h1, h4]
        have hge : 4294967296 ^ nl x ≤ val (R ++ [cc]) := by
          rw [val_append, val_one, h1, HL.out]
          exact Nat.le_trans (Nat.le_mul_of_pos_right _ (by omega)) (Nat.le_add_left _ _)
        have HV := Lib.hid hv
        have HG := Lib.hid hge
        have H1 := Lib.hid h1
        have hsm' := h2.append (small_cons (by omega : cc < 4294967296) small_nil)
        clear h1 h2 h3 h4 hR hv hge
        go_wp2_with (refine wpList_append_fits _ rfl (.tmp 45) (.tmp 47) 23 rfl w.heap.size 126 i0 1 under_nat hi hz1 w.heap.size j (j + 3) _ rfl (HR.out.alloc _) ⟨wr.heap.size, 0, none⟩ 1 1 [.int .u32 (cc : Int)] rfl rfl (cell_one_new _ _ _) (by simp [Value.oneCell']) (by omega) ?_; intro w2 hown2 hgrow2)
        have hl2 : (R ++ [cc]).length = j + 1 := by rw [List.length_append, H1.out]; rfl
        have HL2 := Lib.hid hl2
        clear hl2
        go_ret
        exact ⟨R ++ [cc], by rw [HL2.out, HL.out]; rfl, by rw [HL2.out, HL.out, List.map_append]; exact hown2, hsm', HV.out, Or.inr ⟨by rw [HL2.out, HL.out], HG.out⟩, (hE.out.alloc hE.out.size _).grown hgrow2 (by have := hE.out.size; simp; omega) (fun q e => by cases e; exact Nat.le_refl _)⟩
end Go.Proofs.YtbhenelehhiakaaGreat
namespace Go.Proofs.YtbhenelehhiakaaGreat
open Go.RowKit

theorem or_join2 (x y : Nat) (hx : x < 4294967296) (hy : y < 4294967296) : bits .or .u64 (x : Int) ((y : Int) * 4294967296) = ((x + 4294967296 * y : Nat) : Int) := by
  have e : ((y : Int) * 4294967296) = ((y * 4294967296 : Nat) : Int) := by omega
  rw [e, u64_or_nat _ _ (by omega) (by omega), Nat.or_comm, nat_join 32 (y * 4294967296) x (by omega) (by omega)]
  omega

theorem right_cast (x y s : Nat) : ((x : Int) + 4294967296 * y) / 2 ^ s % 4294967296 = (((x + 4294967296 * y) / 2 ^ s % 4294967296 : Nat) : Int) := by
  rw [Int.natCast_emod, Int.natCast_ediv, Int.natCast_add, Int.natCast_mul, Int.natCast_pow]; rfl
theorem right_cast0 (x s : Nat) : (x : Int) / 2 ^ s % 4294967296 = (((x + 4294967296 * 0) / 2 ^ s % 4294967296 : Nat) : Int) := by
  rw [Nat.mul_zero, Nat.add_zero, Int.natCast_emod, Int.natCast_ediv, Int.natCast_pow]; rfl

set_option maxRecDepth 100000 in
set_option maxHeartbeats 1000000 in
theorem right_any (B : Nat) (w : World) (a : Option Addr) (n c : Nat) (l : Nt) (h : NatS B w a n c l) (hn : n ≤ 8796093022208) (s : Nat) (hs : s < 32) (x : Nat) (hx : Hid (val l = x)) :
    Calls Tryz.prog 167 #[.slice a n c, .int .i64 (s : Int)] w fun e w' => ∃ a' n' c', e = .returned (.tuple #[.slice a' n' c', .int .i64 0]) ∧ NatS w.heap.size w' a' n' c' (limbs (x / 2 ^ s)) ∧ Ext w w' := by
  have hs1 : (s : Int) / 32 = 0 := by omega
  have hs2 : (s : Int) % 32 = (s : Int) := by omega
  go_enter Tryz.func167, Tryz.ntmps167
  go_wp2_with fail
  refine (trim_all B _ a n c l h).mono ?_
  rintro e w1 ⟨k, rfl, ⟨hk, hN⟩, rfl⟩
  have hN := hN _ _ h
  rw [hx.out] at hN
  have hlen := hN.len
  have hcap := hN.cap
  have hpos := Lib.hid hN.pos
  have hsm := Lib.hid (small_limbs x)
  rw [length_limbs] at hlen
  have HL := Lib.hid hlen
  clear h hx hN hlen
  by_cases hk0 : k = 0
  · have hx0 : x = 0 := limbs_eq_nil.1 (List.eq_nil_of_length_eq_zero (by rw [length_limbs, HL.out, hk0]))
    subst hk0
    have HX := Lib.hid hx0
    clear hx0
    go_wp2_with fail
    go_ret2
    exact ⟨_, _, _, rfl, by rw [HX.out, Nat.zero_div]; exact natS_nil _ _, Ext.refl _⟩
  · obtain ⟨b, o, rfl, _, hb1, hc1, _⟩ := hpos.out (by omega)
    have hmk := fun w => make_words under_nat info_u32 k k (Nat.le_refl _) (by omega) w
    have hc0 : ¬ c = 0 := by omega
    have hk0' : decide ((k : Int) ≤ 0) = false := by simp; omega
    clear hpos
    go_wp2_with fail
    go_loopw [28] (fun i wr => ∃ j : Nat, j ≤ k ∧ i = .int .i64 (j : Int) ∧ Hid (Blk wr w.heap.size 126 (words (rights s (limbs x) j ++ List.replicate (k - j) 0))) ∧ Hid (Ext w wr)) (fun i _ => k - (intOf i).toNat)
    case atStart => exact ⟨0, Nat.zero_le _, rfl, Lib.hid (Blk.new _ _ _), Lib.hid ((Below.refl _ _).alloc (Nat.le_refl _) _)⟩
    case round =>
      obtain ⟨j, hj, rfl, hb, hE⟩ := hrel
      by_cases hjk : j < k
      · have hcx := (hE.out.cell (p := ⟨b, o + j, none⟩) hb1).trans (hc1 j hjk)
        have hxi := hsm.out.get j
        have hyi := hsm.out.get (j + 1)
        have hfill := rights_fill s (limbs x) j k hjk
        have hL : (words (rights s (limbs x) j ++ List.replicate (k - j) 0)).size = k := by rw [words_size, List.length_append, length_rights, List.length_replicate]; omega
        have hcy := fun hj1 : j + 1 < k => (hE.out.cell (p := ⟨b, o + (j + 1), none⟩) hb1).trans (hc1 (j + 1) hj1)
        have hy0 : ¬ j + 1 < k → (limbs x)[j + 1]?.getD 0 = 0 := fun h => by rw [List.getElem?_eq_none (by rw [length_limbs, HL.out]; omega)]; rfl
        generalize hxx : (limbs x)[j]?.getD 0 = xi at *
        generalize hyy : (limbs x)[j + 1]?.getD 0 = yi at *
        clear hxx hyy
        generalize hLL : rights s (limbs x) j ++ List.replicate (k - j) 0 = L at *
        clear hLL
        have hco := hb.out.cell (i := j) (words_get (by rw [words_size] at hL; omega))
        have hfr := hb.out.free j
        have hwlt := hb.out.lt
        have hor := or_join2 xi yi hxi hyi
        have hcast : ((xi : Int) + 4294967296 * yi) = ((xi + 4294967296 * yi : Nat) : Int) := by omega
        have HF := Lib.hid hfill
        clear hL hfill
        have fin : ∀ v : Int, v = (((xi + 4294967296 * yi) / 2 ^ s % 4294967296 : Nat) : Int) → ∃ q : Nat, q ≤ k ∧ Value.int .i64 ((j : Int) + 1) = .int .i64 (q : Int) ∧ Hid (Blk (wr.setCell ⟨w.heap.size, j, none⟩ (.int .u32 v)) w.heap.size 126 (words (rights s (limbs x) q ++ List.replicate (k - q) 0))) ∧ Hid (Ext w (wr.setCell ⟨w.heap.size, j, none⟩ (.int .u32 v))) := fun v hv => by
          subst hv
          refine ⟨j + 1, by omega, by go_num, Lib.hid ?_, Lib.hid (hE.out.setCell (Nat.le_refl _) _)⟩
          have := hb.out.set j (.int .u32 (((xi + 4294967296 * yi) / 2 ^ s % 4294967296 : Nat) : Int))
          rw [words_set, HF.out] at this
          exact this
        have FIN := Lib.hid fin
        clear fin hcast
        by_cases hj1 : j + 1 < k
        · have hcy := hcy hj1
          have hj1' : (j : Int) + 1 < (k : Int) := by omega
          clear hy0
          go_wp2_with fail
          go_roundw
          case rel => exact FIN.out _ (right_cast _ _ _)
          case measure => simp [intOf]; omega
        · obtain rfl := hy0 hj1
          clear hcy hy0
          go_wp2_with fail
          go_roundw
          case rel => exact FIN.out _ (right_cast0 _ _)
          case measure => simp [intOf]; omega
      · obtain rfl : j = k := by omega
        have hend := Lib.hid (rights_end (small_limbs x) hs (k := j) (by rw [length_limbs, HL.out]; omega))
        have hNR : NatS w.heap.size wr (some ⟨w.heap.size, 0, none⟩) j j (rights s (limbs x) j) := by
          have := hb.out.nat (B := w.heap.size) (Nat.le_refl _) ((small_rights _ _ _).append (small_replicate _)) j (by simp [length_rights]) (Nat.le_refl _) (by omega)
          rwa [List.take_of_length_le (by simp [length_rights]), Nat.sub_self, List.replicate_zero, List.append_nil] at this
        go_wp2_with fail
        refine (own_any w.heap.size wr _ j j _ hNR (by omega)).mono ?_
        rintro e w3 ⟨a3, n3, c3, rfl, h3, hE3⟩
        rw [hend.out, val_limbs] at h3
        have HF := Lib.hid (h3.mono hE.out.size (Kept.refl _ _))
        have HE := Lib.hid (Ext.trans hE.out hE3)
        clear h3 hE3 hNR
        go_wp2_with fail
        go_ret2
        exact ⟨_, _, _, rfl, HF.out, HE.out⟩
end Go.Proofs.YtbhenelehhiakaaGreat
namespace Go.Proofs.YtbhenelehhiakaaGreat
open Go.RowKit

def lenTab : ByteArray := ⟨#[0, 1, 2, 2, 3, 3, 3, 3, 4, 4, 4, 4, 4, 4, 4, 4, 5, 5, 5, 5, 5, 5, 5, 5, 5, 5, 5, 5, 5, 5, 5, 5, 6, 6, 6, 6, 6, 6, 6, 6, 6, 6, 6, 6, 6, 6, 6, 6, 6, 6, 6, 6, 6, 6, 6, 6, 6, 6, 6, 6, 6, 6, 6, 6, 7, 7, 7, 7, 7, 7, 7, 7, 7, 7, 7, 7, 7, 7, 7, 7, 7, 7, 7, 7, 7, 7, 7, 7, 7, 7, 7, 7, 7, 7, 7, 7, 7, 7, 7, 7, 7, 7, 7, 7, 7, 7, 7, 7, 7, 7, 7, 7, 7, 7, 7, 7, 7, 7, 7, 7, 7, 7, 7, 7, 7, 7, 7, 7, 8, 8, 8, 8, 8, 8, 8, 8, 8, 8, 8, 8, 8, 8, 8, 8, 8, 8, 8, 8, 8, 8, 8, 8, 8, 8, 8, 8, 8, 8, 8, 8, 8, 8, 8, 8, 8, 8, 8, 8, 8, 8, 8, 8, 8, 8, 8, 8, 8, 8, 8, 8, 8, 8, 8, 8, 8, 8, 8, 8, 8, 8, 8, 8, 8, 8, 8, 8, 8, 8, 8, 8, 8, 8, 8, 8, 8, 8, 8, 8, 8, 8, 8, 8, 8, 8, 8, 8, 8, 8, 8, 8, 8, 8, 8, 8, 8, 8, 8, 8, 8, 8, 8, 8, 8, 8, 8, 8, 8, 8, 8, 8, 8, 8, 8, 8, 8, 8, 8, 8, 8, 8, 8, 8, 8, 8, 8, 8]⟩
theorem lenTab_all : ∀ z : Fin 256, (lenTab.data[z.val]?.getD 0).toNat = blen z.val := by decide +kernel
theorem lenTab_at (x : Nat) (hx : x < 256) (h : x < lenTab.size) : (lenTab[x]'h).toNat = blen x := by
  have h1 := lenTab_all ⟨x, hx⟩
  rw [Array.getElem?_eq_getElem (show x < lenTab.data.size from h)] at h1
  exact h1

theorem wrap_len {t b : Nat} {z : Int} (h : t = b) (hb : b ≤ 8) (hz : 0 ≤ z) (hz2 : z ≤ 24) {y : Nat} (hy : (y : Int) = z + b) : wrap64 (z + wrap64 (t : Int)) = (y : Int) := by
  subst h
  unfold wrap64
  omega
theorem wrap_len0 {t b : Nat} (h : t = b) (hb : b ≤ 8) : wrap64 (wrap64 (t : Int)) = (b : Int) := by
  subst h
  unfold wrap64
  omega

theorem ret_int {k : IntKind} {a b : Int} (h : a = b) : Ending.returned (.int k a) = .returned (.int k b) := by rw [h]

set_option maxRecDepth 100000 in
set_option maxHeartbeats 1000000 in
theorem len32_any (x : Nat) (hx : x < 4294967296) (w : World) :
    Calls Tryz.prog 141 #[.int .u32 (x : Int)] w fun e w' => e = .returned (.int .i64 ((blen x : Nat) : Int)) ∧ w = w' := by
  by_cases h16 : 65536 ≤ x
  · have h1 : decide ((65536 : Int) ≤ (x : Int)) = true := by simp; omega
    have e16 : blen x = 16 + blen (x / 65536) := blen_shift 16 h16
    by_cases h8 : 256 ≤ x / 65536
    · have h2 : decide ((256 : Int) ≤ (x : Int) / 65536) = true := by simp; omega
      have e8 : blen (x / 65536) = 8 + blen (x / 65536 / 256) := blen_shift 8 h8
      have hb : blen (x / 65536 / 256) ≤ 8 := blen_le_of_lt (by omega)
      go_enter Tryz.func141, Tryz.ntmps141
      go_wp2_with fail
      go_ret
      exact ⟨ret_int (wrap_len (lenTab_at (x / 65536 / 256) (by omega) _) hb (by decide) (by decide) (by omega)), rfl⟩
    · have h2 : decide ((256 : Int) ≤ (x : Int) / 65536) = false := by simp; omega
      have hb : blen (x / 65536) ≤ 8 := blen_le_of_lt (by omega)
      go_enter Tryz.func141, Tryz.ntmps141
      go_wp2_with fail
      go_ret
      exact ⟨ret_int (wrap_len (lenTab_at (x / 65536) (by omega) _) hb (by decide) (by decide) (by omega)), rfl⟩
  · have h1 : decide ((65536 : Int) ≤ (x : Int)) = false := by simp; omega
    by_cases h8 : 256 ≤ x
    · have h2 : decide ((256 : Int) ≤ (x : Int)) = true := by simp; omega
      have e8 : blen x = 8 + blen (x / 256) := blen_shift 8 h8
      have hb : blen (x / 256) ≤ 8 := blen_le_of_lt (by omega)
      go_enter Tryz.func141, Tryz.ntmps141
      go_wp2_with fail
      go_ret
      exact ⟨ret_int (wrap_len (lenTab_at (x / 256) (by omega) _) hb (by decide) (by decide) (by omega)), rfl⟩
    · have h2 : decide ((256 : Int) ≤ (x : Int)) = false := by simp; omega
      have hb : blen x ≤ 8 := blen_le_of_lt (by omega)
      go_enter Tryz.func141, Tryz.ntmps141
      go_wp2_with fail
      go_ret
      exact ⟨ret_int (wrap_len0 (lenTab_at x (by omega) _) hb), rfl⟩

set_option maxHeartbeats 400000 in
theorem lz32_any (x : Nat) (hx : x < 4294967296) (w : World) :
    Calls Tryz.prog 165 #[.int .u32 (x : Int)] w fun e w' => e = .returned (.int .i64 ((32 - blen x : Nat) : Int)) ∧ w = w' := by
  have hb : blen x ≤ 32 := blen_le_of_lt (by have e : (2 : Nat) ^ 32 = 4294967296 := by decide
                                             omega)
  go_enter Tryz.func165, Tryz.ntmps165
  go_wp2_with fail
  refine (len32_any x hx w).mono ?_
  rintro e w' ⟨rfl, rfl⟩
  go_wp2_with fail
  go_ret
  exact ⟨ret_int (by omega), rfl⟩

theorem blen_val {l : List Nat} (hs : Small l) (hl : 0 < l.length) (h : l[l.length - 1]?.getD 0 ≠ 0) : blen (val l) = 32 * (l.length - 1) + blen (l[l.length - 1]?.getD 0) := by
  have h1 := val_split_at (l := l) (j := l.length - 1) (by omega)
  rw [List.drop_of_length_le (by omega)] at h1
  have h2 := val_lt (hs.take (l.length - 1))
  rw [List.length_take, Nat.min_eq_left (by omega)] at h2
  generalize l[l.length - 1]?.getD 0 = t at *
  have e : val ([] : List Nat) = 0 := rfl
  rw [e, Nat.mul_zero, Nat.add_zero] at h1
  have e2 : (4294967296 : Nat) ^ (l.length - 1) = 2 ^ (32 * (l.length - 1)) := by rw [Nat.pow_mul]
  rw [e2] at h1 h2
  have h3 : 2 ^ (32 * (l.length - 1)) ≤ val l := by
    rw [h1]
    exact Nat.le_trans (Nat.le_mul_of_pos_right _ (by omega)) (Nat.le_add_left _ _)
  rw [blen_shift (32 * (l.length - 1)) h3, h1, Nat.add_mul_div_left _ _ (Nat.pow_pos (by decide)), Nat.div_eq_of_lt h2, Nat.zero_add]

set_option maxHeartbeats 400000 in
theorem natLen_aux (B : Nat) (w : World) (a : Option Addr) (n c : Nat) (l : Nt) (h : NatS B w a n c l) (hn : n ≤ 17592186044416) (x : Nat) (hx : Hid (val l = x)) :
    Calls Tryz.prog 121 #[.slice a n c] w fun e w' => e = .returned (.int .i64 ((blen x : Nat) : Int)) ∧ Ext w w' := by
  go_enter Tryz.func121, Tryz.ntmps121
  go_wp2_with fail
  refine (trim_any B _ a n c l h).mono ?_
  rintro e w1 ⟨k, rfl, hN, rfl⟩
  have hkn : k ≤ n := by have := hN.len; have := nl_val h.small; have := h.len; rw [length_limbs] at *; omega
  rw [hx.out] at hN
  clear h
  have hlen := hN.len
  by_cases hk0 : k = 0
  · have hx0 : x = 0 := limbs_eq_nil.1 (List.eq_nil_of_length_eq_zero (by rw [hlen, hk0]))
    subst hk0
    have HX := Lib.hid hx0
    clear hx0 hlen
    go_wp2_with fail
    go_ret
    exact ⟨by rw [HX.out]; rfl, Ext.refl _⟩
  · obtain ⟨b, o, rfl, _, hb1, hc1, _⟩ := hN.pos (by omega)
    have hk0' : (((k : Nat) : Int) == 0) = false := by simpa using hk0
    obtain ⟨j, rfl⟩ : ∃ j, k = j + 1 := ⟨k - 1, by omega⟩
    have hcj := hc1 j (by omega)
    have hs := small_limbs x
    have hxj := hs.get j
    have hne : (limbs x)[j]?.getD 0 ≠ 0 := by
      intro e0
      have hsp := val_split_at (l := limbs x) (j := j) (by omega)
      have h4 := val_lt (hs.take j)
      rw [List.length_take, Nat.min_eq_left (by omega)] at h4
      rw [e0, List.drop_of_length_le (by omega), val_limbs] at hsp
      have e1 : val ([] : List Nat) = 0 := rfl
      rw [e1] at hsp
      have h5 := pow_nl_le (n := x) (by
        cases Nat.eq_zero_or_pos x with
        | inl h => subst h; simp [limbs_zero] at hlen
        | inr h => exact h)
      rw [← length_limbs, hlen, Nat.add_sub_cancel] at h5
      omega
    have hbl := blen_val (l := limbs x) hs (by omega) (by rw [hlen]; exact hne)
    rw [val_limbs, hlen, Nat.add_sub_cancel] at hbl
    have HB := Lib.hid hbl
    have hb32 : blen ((limbs x)[j]?.getD 0) ≤ 32 := blen_le_of_lt (by have e : (2 : Nat) ^ 32 = 4294967296 := by decide
                                                                      omega)
    generalize (limbs x)[j]?.getD 0 = t at *
    clear hlen hbl hc1 hN
    go_wp2_with fail
    refine (len32_any t hxj w).mono ?_
    rintro e w' ⟨rfl, rfl⟩
    go_wp2_with fail
    go_ret
    exact ⟨ret_int (by rw [HB.out]; omega), Ext.refl _⟩
end Go.Proofs.YtbhenelehhiakaaGreat
