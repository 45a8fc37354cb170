/-
  The references' natural numbers, part 4: shift, Mul.
-/
import Derived.Maps.OwnIn
import Derived.Test.YtbhenelehhiakaaGreatSum12
set_option linter.unusedVariables false
set_option linter.unusedSimpArgs false
namespace Go.Proofs.YtbhenelehhiakaaGreat
open Go.RowKit

theorem owns_form {w : World} {base e size n : Nat} {v : Value} {xs : List Value} (h : w.ownsRow base e size v n xs) (hn : 0 < n) : ∃ g c, v = .slice (some ⟨g, 0, none⟩) n c ∧ base ≤ g := by
  rcases h.2 with ⟨h0, _⟩ | ⟨g, cap, cur, h1, h2, _⟩
  · omega
  · exact ⟨g, cap, h1, h2⟩

set_option maxHeartbeats 1000000 in
theorem shift_any (B : Nat) (w : World) (a : Option Addr) (n c : Nat) (l : Nt) (h : NatS B w a n c l) (hn : n ≤ 8796093022208) (wd : Nat) (hwd : wd < 4294967296) (m : Nat) (hm : Hid (wd + 4294967296 * val l = m)) :
    Calls Tryz.prog 163 #[.slice a n c, .int .u32 (wd : Int)] w (RNat w m) := by
  obtain ⟨i0, hi, hz0, hz1, hz2⟩ := info_parts info_u32
  have hEA : Ext w (w.alloc (.cells (words [wd]) 126)) := (Below.refl _ _).alloc (Nat.le_refl _) _
  have hS := NatS.src (h.ext (Nat.le_refl _) hEA)
  have hsm := Lib.hid h.small
  have hlen := Lib.hid h.len
  have hown := owns_of_blk (base := w.heap.size) (n := 1) (c := 1) (l := [wd]) (m := []) (Blk.new w 126 (words [wd])) (Nat.le_refl _) rfl rfl (by omega)
  have HOWN := Lib.hid hown
  have HS := Lib.hid hS
  clear hS hown h
  go_enter Tryz.func163, Tryz.ntmps163
  go_wp2_with (at_builtin; refine wpList_append_src rfl (.tmp 6) (.tmp 7) 23 rfl w.heap.size 126 i0 _ 1 4 under_nat hi hz0 hz1 hz2 rfl (by decide) (.slice (some ⟨w.heap.size, 0, none⟩) 1 1) 1 _ rfl HOWN.out a n c _ rfl HS.out.1 (by rw [List.length_map, hlen.out, Nat.mul_one]) HS.out.2 (by simp [Value.oneCell']) (by unfold maxLen; omega) (by omega) hEA.size ?_; intro v' w1 hown' hgrow hat)
  obtain ⟨g, cc, rfl, hg⟩ := owns_form hown' (by omega)
  have hE1 : Ext w w1 := hEA.grown hgrow hEA.size (fun k e => by cases e; exact Nat.le_refl _)
  have hNS : NatS w.heap.size w1 (some ⟨g, 0, none⟩) (1 + n) cc (wd :: l) := natS_of_owns (by simpa using hown') (small_cons hwd hsm.out)
  have hv : val (wd :: l) = m := by rw [val]; exact hm.out
  clear hown' hgrow hat hEA
  go_wp2_with fail
  refine (r1Norm_any w.heap.size w1 _ _ _ _ hNS (by omega)).mono ?_
  rintro e w3 ⟨a3, n3, c3, rfl, h3, hE3⟩
  rw [hv] at h3
  have HF := Lib.hid (RNat.intro (h3.mono hE1.size (Kept.refl _ _)) (Ext.trans hE1 hE3))
  clear h3 hE3 hNS hv hE1
  go_wp2_with fail
  go_ret
  exact HF.out

theorem mul_top {y : Nat} {j : Nat} (X : Nat) (L : List Nat) (hL : limbs y = L) : 4294967296 * (X * (y / 4294967296 ^ (j + 1))) + X * (L[j]?.getD 0) = X * (y / 4294967296 ^ j) := by
  subst hL
  have := val_div_step (small_limbs y) j
  rw [val_limbs] at this
  rw [this, Nat.mul_add, Nat.mul_left_comm, Nat.add_comm]

set_option maxRecDepth 100000 in
set_option maxHeartbeats 2000000 in
theorem r1Mul_any (B : Nat) (w : World) (a a2 : Option Addr) (n c n2 c2 : Nat) (l l2 : Nt) (h : NatS B w a n c l) (h2 : NatS B w a2 n2 c2 l2) (hn : n ≤ 4398046511104) (hn2 : n2 ≤ 4398046511104) (x y : Nat) (hx : Hid (val l = x)) (hy : Hid (val l2 = y)) :
    Calls Tryz.prog 152 #[.slice a n c, .slice a2 n2 c2] w (RNat w (x * y)) := by
  go_enter Tryz.func152, Tryz.ntmps152
  go_wp2_with fail
  refine (r1Norm_any B w a n c l h (by omega)).mono ?_
  rintro e w1 ⟨a3, n3, c3, rfl, h3, hE1⟩
  go_wp2_with fail
  refine (r1Norm_any B w1 a2 n2 c2 l2 (h2.ext (Nat.le_refl _) hE1) (by omega)).mono ?_
  rintro e w2 ⟨a4, n4, c4, rfl, h4, hE2⟩
  have h3 := h3.ext (Nat.le_refl _) hE2
  have hE := Ext.trans hE1 hE2
  have hn3 : n3 ≤ n := by have := h3.len; have := nl_val h.small; have := h.len; rw [length_limbs] at *; omega
  have hn4 : n4 ≤ n2 := by have := h4.len; have := nl_val h2.small; have := h2.len; rw [length_limbs] at *; omega
  rw [hx.out] at h3
  rw [hy.out] at h4
  have hmost := h4.most
  have hcap := h4.cap
  have hl3 := Lib.hid h3.len
  have hl4 := Lib.hid h4.len
  have H3 := Lib.hid h3
  have H4 := Lib.hid h4
  have HE := Lib.hid hE
  have hs4 := small_limbs y
  clear h h2 h3 h4 hE1 hE2 hx hy hE
  generalize hLL : limbs y = L at hl4 H4 hs4
  have HLL := Lib.hid hLL
  clear hLL
  go_wp2_with fail
  go_loopg [5, 6] n4 (fun q vo vi wr => ∃ (j : Nat) (ao : Option Addr) (no co : Nat) (z : Int), j ≤ n4 ∧ q = j ∧ vi = .int .i64 z ∧ z = (j : Int) - 1 ∧ vo = .slice ao no co ∧ no ≤ n3 + n4 ∧ Hid (NatS 0 wr ao no co (limbs (x * (y / 4294967296 ^ j)))) ∧ Hid (Ext w2 wr))
  case atStart =>
    refine ⟨n4, none, 0, 0, _, Nat.le_refl _, rfl, rfl, rfl, rfl, by omega, Lib.hid ?_, Lib.hid (Ext.refl _)⟩
    rw [digit_above y (by rw [← length_limbs, HLL.out, hl4.out]; exact Nat.le_refl _), Nat.mul_zero]
    exact natS_nil _ _
  case round =>
    obtain ⟨j, ao, no, co, z, hj, hq, rfl, hz, rfl, hno, HO, HEr⟩ := hrel
    by_cases hj0 : j = 0
    · subst hj0
      obtain rfl : z = -1 := by omega
      have hO := HO.out
      rw [Nat.pow_zero, Nat.div_one] at hO
      clear hz HO
      go_wp2_with fail
      refine (r1Norm_any 0 wr _ _ _ _ hO (by omega)).mono ?_
      rintro e w5 ⟨a5, n5, c5, rfl, h5, hE5⟩
      rw [val_limbs] at h5
      have hE6 := Ext.trans HE.out HEr.out
      have HF := Lib.hid (RNat.intro (h5.mono hE6.size (Kept.refl _ _)) (Ext.trans hE6 hE5))
      clear h5 hE5 hE6 hO
      go_wp2_with fail
      go_ret
      exact HF.out
    · obtain ⟨i, rfl⟩ : ∃ i, j = i + 1 := ⟨j - 1, by omega⟩
      obtain rfl : z = (i : Int) := by omega
      clear hz hj0
      obtain ⟨b4, o4, rfl, hb4, hc4⟩ := H4.out.at' (k := i) (by omega)
      have hc := (HEr.out.cell (p := ⟨b4, o4 + i, none⟩) hb4).trans hc4
      have HT := Lib.hid (mul_top (j := i) x L HLL.out)
      have hd := hs4.get i
      clear hc4
      generalize L[i]?.getD 0 = d at *
      have hO := HO.out
      have hl5 := hO.len
      rw [length_limbs] at hl5
      have hnl1 : nl (x * (y / 4294967296 ^ i)) ≤ n3 + n4 := by
        have h1 : x * (y / 4294967296 ^ i) ≤ x * y := Nat.mul_le_mul_left _ (Nat.div_le_self _ _)
        have h2 := nl_mono h1
        have h3 := nl_mul x y
        have e3 : nl x = n3 := hl3.out
        have e4 : nl y = n4 := by rw [← length_limbs, HLL.out, hl4.out]
        omega
      have h3 := (H3.out.ext (Nat.zero_le _) HEr.out)
      have hE0 := Ext.refl wr
      have hik : (i : Int) < (n4 : Int) := by omega
      have HV1 : Hid (0 + 4294967296 * val (limbs (x * (y / 4294967296 ^ (i + 1)))) = 4294967296 * (x * (y / 4294967296 ^ (i + 1)))) := Lib.hid (by rw [val_limbs, Nat.zero_add])
      have HV2 : Hid (val (limbs x) * d = x * d) := Lib.hid (by rw [val_limbs])
      have hnl5 : nl (4294967296 * (x * (y / 4294967296 ^ (i + 1)))) ≤ n3 + n4 := Nat.le_trans (nl_mono (by rw [← HT.out]; exact Nat.le_add_right _ _)) hnl1
      have hnl6 : nl (x * d) ≤ n3 + n4 := Nat.le_trans (nl_mono (by rw [← HT.out]; exact Nat.le_add_left _ _)) hnl1
      clear hl5 HO
      generalize x * (y / 4294967296 ^ (i + 1)) = P1 at *
      generalize hP0 : x * (y / 4294967296 ^ i) = P0 at *
      have HP0 := Lib.hid hP0
      clear hP0
      go_wp2_with fail
      have HEd := Lib.hid ((Below.refl _ _).drew : Ext wr wr.drew)
      have hO := hO.ext (Nat.zero_le _) HEd.out
      have h3 := h3.ext (Nat.zero_le _) HEd.out
      have hE0 := HEd.out
      go_region_held3 (fun w' => w'.cell? ⟨b4, o4 + i, none⟩ = some (.int .u32 (d : Int))) (first | exact hc | go_keep)
        (first | (go_at_call 163; refine (shift_any 0 _ _ _ _ _ hO (by omega) 0 (by omega) _ HV1).mono ?_; rintro e w5 ⟨a5, n5, c5, rfl, h5, hE5⟩; replace h5 := h5.mono (Nat.zero_le _) (Kept.refl _ _); replace hc := (hE5.cell (p := ⟨b4, o4 + i, none⟩) (Nat.lt_of_lt_of_le hb4 (Nat.le_trans HEr.out.size hE0.size))).trans hc; replace h3 := h3.ext (Nat.zero_le _) hE5; (try replace h6 := h6.ext (Nat.zero_le _) hE5); replace hE0 := Ext.trans hE0 hE5)
               | (go_at_call 164; refine (r1Small_any 0 _ _ _ _ _ h3 (by omega) d hd _ HV2).mono ?_; rintro e w6 ⟨a6, n6, c6, rfl, h6, hE6⟩; replace h6 := h6.mono (Nat.zero_le _) (Kept.refl _ _); replace hc := (hE6.cell (p := ⟨b4, o4 + i, none⟩) (Nat.lt_of_lt_of_le hb4 (Nat.le_trans HEr.out.size hE0.size))).trans hc; (try replace h5 := h5.ext (Nat.zero_le _) hE6); (try replace hO := hO.ext (Nat.zero_le _) hE6); replace hE0 := Ext.trans hE0 hE6)
               | (go_at_call 149; refine (r1Add_any 0 _ _ _ _ _ _ _ _ _ h5 h6 (by have := h5.len; rw [length_limbs] at this; omega) (by have := h6.len; rw [length_limbs] at this; omega) P0 (Lib.hid (by rw [val_limbs, val_limbs]; exact HT.out))).mono ?_; rintro e w7 ⟨a7, n7, c7, rfl, h7, hE7⟩; replace hc := (hE7.cell (p := ⟨b4, o4 + i, none⟩) (Nat.lt_of_lt_of_le hb4 (Nat.le_trans HEr.out.size hE0.size))).trans hc; replace h7 := h7.mono (Nat.zero_le _) (Kept.refl _ _); replace hE0 := Ext.trans hE0 hE7; have hl7 := h7.len; rw [length_limbs] at hl7))
      all_goals
        have H7 := Lib.hid h7
        have HE7 := Lib.hid (Ext.trans HEr.out hE0)
        clear h7 hE0 h3 h5 h6
        go_wp2_with fail
        go_roundg i
        case measure => omega
        case rel => exact ⟨i, a7, n7, c7, _, by omega, rfl, rfl, rfl, rfl, by omega, by rw [HP0.out]; exact H7, HE7⟩
end Go.Proofs.YtbhenelehhiakaaGreat
