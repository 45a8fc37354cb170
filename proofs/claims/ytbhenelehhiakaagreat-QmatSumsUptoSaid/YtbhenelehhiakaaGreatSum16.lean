/-
  The references' natural numbers, part 6: Div.
-/
import Derived.Test.YtbhenelehhiakaaGreatSum14
import Derived.Test.YtbhenelehhiakaaGreatSum15
set_option linter.unusedVariables false
set_option linter.unusedSimpArgs false
namespace Go.Proofs.YtbhenelehhiakaaGreat
open Go.RowKit

theorem bit_fit {q t : Nat} (hq : q < 4294967296) (ht : t < 32) : q / 2 ^ (t + 1) * 2 ^ (t + 1) + 2 ^ t < 4294967296 := by
  have e : (4294967296 : Nat) = 2 ^ (32 - (t + 1)) * 2 ^ (t + 1) := by
    rw [← Nat.pow_add, show 32 - (t + 1) + (t + 1) = 32 by omega]
  have h1 : q / 2 ^ (t + 1) < 2 ^ (32 - (t + 1)) := Nat.div_lt_of_lt_mul (by rw [Nat.mul_comm, ← e]; exact hq)
  have h2 : (q / 2 ^ (t + 1) + 1) * 2 ^ (t + 1) ≤ 2 ^ (32 - (t + 1)) * 2 ^ (t + 1) := Nat.mul_le_mul_right _ h1
  rw [← e, Nat.add_mul, Nat.one_mul] at h2
  have h3 : 2 ^ t < 2 ^ (t + 1) := Nat.pow_lt_pow_right (by decide) (by omega)
  omega
theorem bit_or {dd t : Nat} (ht : t < 32) (h1 : dd + 2 ^ t < 4294967296) (h2 : dd % 2 ^ (t + 1) = 0) : bits .or .u32 (dd : Int) ((2 : Int) ^ t % 4294967296) = ((dd + 2 ^ t : Nat) : Int) := by
  rw [shl_cast ht, u32_or_nat _ _ (by omega) (by have := pow_s_le ht; omega), nat_join (t + 1) dd (2 ^ t) h2 (Nat.pow_lt_pow_right (by decide) (by omega))]

/-- quotient and what is left, both in new memory -/
def RDiv2 (w : World) (q r : Nat) (e : Ending) (w' : World) : Prop := ∃ a n c a2 n2 c2, e = .returned (.tuple #[.slice a n c, .slice a2 n2 c2]) ∧ NatS w.heap.size w' a n c (limbs q) ∧ NatS w.heap.size w' a2 n2 c2 (limbs r) ∧ Ext w w'

theorem le_cmpI {a b : Nat} (h : a ≤ b) : decide (cmpI a b ≤ 0) = true := by
  rcases Nat.lt_or_ge a b with h1 | h1
  · rw [cmpI_lt h1]; rfl
  · rw [cmpI_eq (by omega)]; rfl
theorem gt_cmpI {a b : Nat} (h : b < a) : decide (cmpI a b ≤ 0) = false := by rw [cmpI_gt h]; rfl

set_option maxRecDepth 100000 in
set_option maxHeartbeats 4000000 in
theorem r1Div_any (B : Nat) (w : World) (a a2 : Option Addr) (n c n2 c2 : Nat) (l l2 : Nt) (h : NatS B w a n c l) (h2 : NatS B w a2 n2 c2 l2) (hn : n ≤ 4398046511104) (hn2 : n2 ≤ 4398046511104) (x y : Nat) (hx : Hid (val l = x)) (hy : Hid (val l2 = y)) (hy0 : 0 < y) :
    Calls Tryz.prog 159 #[.slice a n c, .slice a2 n2 c2] w (RDiv2 w (x / y) (x % y)) := by
  go_enter Tryz.func159, Tryz.ntmps159
  go_wp2_with fail
  refine (r1Norm_any B w a n c l h (by omega)).mono ?_
  rintro e w1 ⟨a3, n3, c3, rfl, h3, hE1⟩
  go_wp2_with fail
  refine (r1Norm_any B w1 a2 n2 c2 l2 (h2.ext (Nat.le_refl _) hE1) (by omega)).mono ?_
  rintro e w2 ⟨a4, n4, c4, rfl, h4, hE2⟩
  have h3 := h3.ext (Nat.le_refl _) hE2
  have hE := Ext.trans hE1 hE2
  have hn3 : n3 ≤ n := by have := h3.len; have := nl_val h.small; have := h.len; rw [length_limbs] at *; omega
  have hn4 : n4 ≤ n2 := by have := h4.len; have := nl_val h2.small; have := h2.len; rw [length_limbs] at *; omega
  rw [hx.out] at h3
  rw [hy.out] at h4
  have hmost := h3.most
  have hcap := h3.cap
  have hl3 : Hid (nl x = n3) := Lib.hid h3.len
  have hl4 : Hid (nl y = n4) := Lib.hid h4.len
  have H3 := Lib.hid h3
  have H4 := Lib.hid (h4.mono (Nat.zero_le _) (Kept.refl _ _))
  have HE := Lib.hid hE
  have hEs := hE.size
  have hs3 := small_limbs x
  have HVY := Lib.hid (val_limbs y)
  have hmk := fun w => make_words under_nat info_u32 n3 n3 (Nat.le_refl _) (by omega) w
  clear h h2 h3 h4 hE1 hE2 hx hy hE
  generalize hLL : limbs x = L at H3 hs3
  have HLL := Lib.hid hLL
  clear hLL
  go_wp2_with fail
  go_loopg [7, 8] n3 (fun q vr vi wr => ∃ (j : Nat) (ar : Option Addr) (nr cr : Nat) (z : Int), j ≤ n3 ∧ q = j ∧ vi = .int .i64 z ∧ z = (j : Int) - 1 ∧ vr = .slice ar nr cr ∧ nr ≤ n4 ∧ Hid (NatS (w2.heap.size + 1) wr ar nr cr (limbs (x / 4294967296 ^ j % y))) ∧
    Hid (∃ Q : List Nat, Blk wr w2.heap.size 126 (words (List.replicate j 0 ++ Q)) ∧ Q.length + j = n3 ∧ Small Q ∧ val Q = x / 4294967296 ^ j / y) ∧ Hid (Ext w2 wr))
  case atStart =>
    refine ⟨n3, none, 0, 0, _, Nat.le_refl _, rfl, rfl, rfl, rfl, by omega, Lib.hid ?_, Lib.hid ⟨[], ?_, by simp, small_nil, ?_⟩, Lib.hid ((Below.refl _ _).alloc (Nat.le_refl _) _)⟩
    · rw [digit_above x (by rw [hl3.out]; exact Nat.le_refl _), Nat.zero_mod]
      exact natS_nil _ _
    · rw [List.append_nil]; exact Blk.new _ _ _
    · rw [digit_above x (by rw [hl3.out]; exact Nat.le_refl _), Nat.zero_div]; rfl
  case round =>
    obtain ⟨j, ar, nr, cr, z, hj, hq, rfl, hz, rfl, hnr, HR, HQ, HEr⟩ := hrel
    by_cases hj0 : j = 0
    · subst hj0
      obtain rfl : z = -1 := by omega
      have hR := HR.out
      obtain ⟨Q, hQ1, hQ2, hQ3, hQ4⟩ := HQ.out
      rw [Nat.pow_zero, Nat.div_one] at hR hQ4
      have hNQ : NatS w.heap.size wr (some ⟨w2.heap.size, 0, none⟩) n3 n3 Q := by
        have := hQ1.nat (B := w.heap.size) hEs ((small_replicate _).append hQ3) n3 (by rw [List.length_append, List.length_replicate]; omega) (Nat.le_refl _) (by omega)
        rwa [List.replicate_zero, List.nil_append, List.take_of_length_le (by omega)] at this
      have HQ4 := Lib.hid hQ4
      have HRR := Lib.hid hR
      have HNQ := Lib.hid hNQ
      clear hz HR HQ hQ1 hQ2 hQ3 hQ4 hNQ hR
      go_wp2_with fail
      refine (r1Norm_any w.heap.size wr _ _ _ _ HNQ.out (by omega)).mono ?_
      rintro e w5 ⟨a5, n5, c5, rfl, h5, hE5⟩
      rw [HQ4.out] at h5
      have hE6 := Ext.trans HE.out HEr.out
      have HF : Hid (RDiv2 w (x / y) (x % y) (.returned (.tuple #[.slice a5 n5 c5, .slice ar nr cr])) w5) := Lib.hid ⟨a5, n5, c5, ar, nr, cr, rfl, h5.mono hE6.size (Kept.refl _ _), HRR.out.ext (by omega) hE5, Ext.trans hE6 hE5⟩
      clear h5 hE5 hE6
      go_wp2_with fail
      go_ret2
      exact HF.out
    · obtain ⟨i, rfl⟩ : ∃ i, j = i + 1 := ⟨j - 1, by omega⟩
      obtain rfl : z = (i : Int) := by omega
      clear hz hj0
      obtain ⟨b3, o3, rfl, hb3, hc3⟩ := NatS.at' H3.out (k := i) (by omega)
      have hc := (HEr.out.cell (p := ⟨b3, o3 + i, none⟩) hb3).trans hc3
      have hdg := val_div_step hs3 i
      have hvx : val L = x := by rw [← HLL.out, val_limbs]
      rw [hvx] at hdg
      have hd := hs3.get i
      clear hc3 hvx
      generalize L[i]?.getD 0 = d at *
      have hR := HR.out
      have hEw : w2.heap.size + 1 ≤ wr.heap.size := by obtain ⟨Q, hQ1, _⟩ := HQ.out; exact hQ1.lt
      have hik : (i : Int) < (n3 : Int) := by omega
      obtain ⟨Q, hQ1, hQ2, hQ3, hQ4⟩ := HQ.out
      generalize hX0 : x / 4294967296 ^ i = X0 at *
      generalize hX1 : x / 4294967296 ^ (i + 1) = X1 at *
      obtain ⟨rr, hrr⟩ : ∃ rr, rr = d + 4294967296 * (X1 % y) := ⟨_, rfl⟩
      have hrem : rr % y = X0 % y := by rw [hrr, hdg]; exact div_rem X1 y d
      have hquo : X0 / y = rr / y + 4294967296 * (X1 / y) := by rw [hrr, hdg]; exact div_quo X1 y d hy0
      have hrq : rr / y < 4294967296 := by
        refine Nat.div_lt_of_lt_mul ?_
        have h1 := Nat.mod_lt X1 hy0
        have h2 : 4294967296 * (X1 % y) + 4294967296 ≤ 4294967296 * y := by rw [← Nat.mul_succ]; exact Nat.mul_le_mul_left _ h1
        rw [Nat.mul_comm y]; omega
      have hnlr : nl (rr % y) ≤ n4 := by have := nl_mono (Nat.le_of_lt (Nat.mod_lt rr hy0)); rw [hl4.out] at this; exact this
      have hnrr : nl rr ≤ n4 + 1 := by
        refine nl_le_of_lt ?_
        have h1 : rr < y * 4294967296 := by
          have h1 := Nat.mod_lt X1 hy0
          have h2 : 4294967296 * (X1 % y) + 4294967296 ≤ 4294967296 * y := by rw [← Nat.mul_succ]; exact Nat.mul_le_mul_left _ h1
          rw [Nat.mul_comm y]; omega
        have h2 := lt_pow_nl y
        rw [hl4.out] at h2
        rw [Nat.pow_succ]
        exact Nat.lt_of_lt_of_le h1 (Nat.mul_le_mul_right _ (Nat.le_of_lt h2))
      have HREM := Lib.hid hrem
      have HQUO := Lib.hid hquo
      have HRR : Hid (d + 4294967296 * val (limbs (X1 % y)) = rr) := Lib.hid (by rw [val_limbs]; exact hrr.symm)
      have HX0 := Lib.hid hX0
      have HQ1 := Lib.hid hQ1
      have HQ2 := Lib.hid hQ2
      have HQ4 := Lib.hid hQ4
      have hfresh : Hid (∀ v, (List.replicate (i + 1) 0 ++ Q).set i v = List.replicate i 0 ++ v :: Q) := Lib.hid (set_fill Q i)
      clear hrem hquo hrr hX0 hX1 hQ1 hQ2 hQ4 HQ HR hdg
      go_wp2_with fail
      refine (shift_any (w2.heap.size + 1) wr _ _ _ _ hR (by omega) d hd rr HRR).mono ?_
      rintro e w5 ⟨a5, n5, c5, rfl, h5, hE5⟩
      have h5 := h5.mono hEw (Kept.refl _ _)
      have hl5 := h5.len
      rw [length_limbs] at hl5
      have hn5 : n5 ≤ n4 + 1 := by omega
      have H5 := Lib.hid h5
      have HE5 := Lib.hid (Ext.trans HEr.out hE5)
      have HQ5 := Lib.hid (HQ1.out.ext hE5)
      clear h5 hE5 hl5 hR
      go_wp2_with fail
      refine (r1Cmp_any 0 w5 _ _ _ _ _ _ _ _ (H5.out.mono (Nat.zero_le _) (Kept.refl _ _)) (H4.out.ext (Nat.le_refl _) HE5.out) rr y (Lib.hid (val_limbs _)) HVY).mono ?_
      rintro e w5 ⟨rfl, rfl⟩
      by_cases hlt : rr < y
      · rw [cmpI_lt hlt]
        have hr0 : rr % y = rr := Nat.mod_eq_of_lt hlt
        have hq0 : rr / y = 0 := Nat.div_eq_of_lt hlt
        have HA : Hid (limbs (X0 % y) = limbs rr) := Lib.hid (by rw [← HREM.out, hr0])
        have HB : Hid (val (0 :: Q) = X0 / y) := Lib.hid (by rw [val, HQ4.out, HQUO.out, hq0])
        rw [hr0] at hnlr
        have hn5' : n5 ≤ n4 := by have := H5.out.len; rw [length_limbs] at this; omega
        clear hr0 hq0
        go_wp2_with fail
        go_roundg i
        case measure => omega
        case rel =>
          refine ⟨i, a5, n5, c5, _, by omega, rfl, rfl, rfl, rfl, hn5', Lib.hid ?_, Lib.hid ⟨0 :: Q, ?_, ?_, small_cons (by decide) hQ3, ?_⟩, HE5⟩
          · rw [HX0.out, HA.out]; exact H5.out
          · have := HQ5.out
            rwa [List.replicate_succ', List.append_assoc] at this
          · have := HQ2.out; simp; omega
          · rw [HX0.out]; exact HB.out
      · have hc0 : decide (cmpI rr y < 0) = false := by
          rcases Nat.lt_or_ge y rr with h1 | h1
          · rw [cmpI_gt h1]; rfl
          · rw [cmpI_eq (by omega)]; rfl
        obtain ⟨wq, rfl⟩ : ∃ wq : World, wq = w5 := ⟨_, rfl⟩
        go_wp2_with fail
        go_loopg [9, 10] 32 (fun q vd vk wx => ∃ (t dd : Nat) (zz : Int), t ≤ 32 ∧ q = t ∧ vk = .int .i64 zz ∧ zz = (t : Int) - 1 ∧ vd = .int .u32 (dd : Int) ∧ Hid (dd = rr / y / 2 ^ t * 2 ^ t) ∧ Hid (Ext wq wx))
        case atStart =>
          refine ⟨32, 0, 31, Nat.le_refl _, rfl, rfl, by decide, rfl, Lib.hid ?_, Lib.hid (Ext.refl _)⟩
          rw [Nat.div_eq_of_lt (a := rr / y) (Nat.lt_of_lt_of_eq hrq (by decide)), Nat.zero_mul]
        case round =>
          obtain ⟨t, dd, zz, ht, hqt, rfl, hzz, rfl, HD, HEx⟩ := hrel
          by_cases ht0 : t = 0
          · subst ht0
            obtain rfl : zz = -1 := by omega
            have hD := HD.out
            rw [Nat.pow_zero, Nat.div_one, Nat.mul_one] at hD
            have hdlt : dd < 4294967296 := by rw [hD]; exact hrq
            have HD2 := Lib.hid hD
            clear hD hzz HD
            have hQx := HQ5.out.ext HEx.out
            have hL : (List.replicate (i + 1) 0 ++ Q).length = n3 := by have := HQ2.out; rw [List.length_append, List.length_replicate]; omega
            have hco := hQx.word (i := i) (by rw [hL]; omega)
            have hfr := hQx.free i
            have hwl := hQx.lt
            have HQS := Lib.hid (hQx.set i (.int .u32 (dd : Int)))
            have HES := Lib.hid ((Ext.trans HE5.out HEx.out).setCell (p := ⟨w2.heap.size, i, none⟩) (Nat.le_refl _) (.int .u32 (dd : Int)))
            have HR6 := Lib.hid ((H5.out.ext (Nat.le_refl _) HEx.out).mono (Nat.le_refl _) (kept_set _ i (.int .u32 (dd : Int)) (Nat.lt_succ_self w2.heap.size)))
            have HP : Hid (val (limbs y) * dd = y * dd) := Lib.hid (by rw [val_limbs])
            have hle : y * dd ≤ rr := by rw [HD2.out]; exact Nat.mul_div_le rr y
            have HSUB : Hid (rr - y * dd = rr % y) := Lib.hid (by rw [HD2.out]; have := Nat.div_add_mod rr y; omega)
            have HQF := Lib.hid (hfresh.out dd)
            have HQV : Hid (val (dd :: Q) = X0 / y) := Lib.hid (by rw [val, HQ4.out, HQUO.out, HD2.out])
            have hnp := nl_mono hle
            have hl5 : nl rr = n5 := by have := H5.out.len; rw [length_limbs] at this; exact this
            have HL5 := Lib.hid hl5
            rw [hl5] at hnp
            generalize (List.replicate (i + 1) 0 ++ Q)[i]?.getD 0 = old at hco
            clear hQx hL hl5
            generalize hPP : y * dd = PP at *
            have hPPe := Lib.hid hPP
            clear hPP
            have hW6 : w2.heap.size + 1 ≤ (wr.setCell ⟨w2.heap.size, i, none⟩ (.int .u32 (dd : Int))).heap.size := by simp only [World.setCell, Array.size_modify]; omega
            go_wp2_with fail
            generalize wr.setCell ⟨w2.heap.size, i, none⟩ (.int .u32 (dd : Int)) = W6 at *
            refine (r1Small_any 0 W6 _ _ _ _ (H4.out.ext (Nat.le_refl _) HES.out) (by omega) dd hdlt PP HP).mono ?_
            rintro e w7 ⟨a7, n7, c7, rfl, h7, hE7⟩
            have hn7 : n7 ≤ n5 := by have := h7.len; rw [length_limbs] at this; omega
            go_wp2_with fail
            refine (r1Sub_any 0 w7 _ _ _ _ _ _ _ _ ((HR6.out.ext (Nat.zero_le _) hE7)) (h7.mono (Nat.zero_le _) (Kept.refl _ _)) (by omega) hn7 (rr % y) (by rw [val_limbs, val_limbs]; exact hle) (by rw [val_limbs, val_limbs]; exact HSUB)).mono ?_
            rintro e w8 ⟨a8, n8, c8, rfl, h8, hE8⟩
            have hE78 := Ext.trans hE7 hE8
            have hn8 : n8 ≤ n4 := by have := h8.len; rw [length_limbs] at this; omega
            have H8 := Lib.hid (h8.mono (Nat.le_trans hW6 hE7.size) (Kept.refl _ _))
            have HE8 := Lib.hid (Ext.trans HES.out hE78)
            have HQ8 := Lib.hid (HQS.out.ext hE78)
            clear h7 h8 hE7 hE8 hE78
            go_wp2_with fail
            go_roundg i
            case measure => omega
            case rel =>
              refine ⟨i, a8, n8, c8, _, by omega, rfl, rfl, rfl, rfl, hn8, Lib.hid ?_, Lib.hid ⟨dd :: Q, ?_, ?_, small_cons hdlt hQ3, ?_⟩, HE8⟩
              · rw [HX0.out, ← HREM.out]; exact H8.out
              · have := HQ8.out
                rwa [words_set, HQF.out] at this
              · have := HQ2.out; simp; omega
              · rw [HX0.out]; exact HQV.out
          · obtain ⟨u, rfl⟩ : ∃ u, t = u + 1 := ⟨t - 1, by omega⟩
            obtain rfl : zz = (u : Int) := by omega
            have hD := HD.out
            have hfit := bit_fit hrq (t := u) (by omega)
            have hmod : dd % 2 ^ (u + 1) = 0 := by rw [hD]; exact Nat.mul_mod_left _ _
            rw [← hD] at hfit
            have hor := bit_or (t := u) (by omega) hfit hmod
            have hstep := bit_step (r := rr) (k := u) hy0
            have hstay := bit_stay (r := rr) (k := u) hy0
            rw [← hD] at hstep hstay
            obtain ⟨T, hT⟩ : ∃ T, T = dd + 2 ^ u := ⟨_, rfl⟩
            rw [← hT] at hor hstep hstay hfit
            have HP : Hid (val (limbs y) * T = T * y) := Lib.hid (by rw [val_limbs, Nat.mul_comm])
            have HSTEP := Lib.hid hstep
            have HSTAY := Lib.hid hstay
            clear hD hmod hT hzz ht0 hstep hstay HD
            generalize hPP : T * y = PP at *
            have hPPe := Lib.hid hPP
            have hu : (u : Int) ≤ 31 := by omega
            clear hPP
            go_wp2_with fail
            refine (r1Small_any 0 wr _ _ _ _ (H4.out.ext (Nat.le_refl _) (Ext.trans HE5.out HEx.out)) (by omega) T hfit PP HP).mono ?_
            rintro e w7 ⟨a7, n7, c7, rfl, h7, hE7⟩
            go_wp2_with fail
            refine (r1Cmp_any 0 w7 _ _ _ _ _ _ _ _ (h7.mono (Nat.zero_le _) (Kept.refl _ _)) ((H5.out.ext (Nat.zero_le _) (Ext.trans HEx.out hE7))) PP rr (Lib.hid (val_limbs _)) (Lib.hid (val_limbs _))).mono ?_
            rintro e w7 ⟨rfl, rfl⟩
            have HE7 := Lib.hid (Ext.trans HEx.out hE7)
            clear h7 hE7
            by_cases hle : PP ≤ rr
            · have hc := le_cmpI hle
              have HV : Hid (T = rr / y / 2 ^ u * 2 ^ u) := Lib.hid (HSTEP.out hle).symm
              clear hle
              go_wp2_with fail
              go_roundg u
              case measure => omega
              case rel => exact ⟨u, T, _, by omega, rfl, rfl, rfl, rfl, HV, HE7⟩
            · have hc := gt_cmpI (Nat.lt_of_not_le hle)
              have HV : Hid (dd = rr / y / 2 ^ u * 2 ^ u) := Lib.hid (HSTAY.out (Nat.lt_of_not_le hle)).symm
              clear hle
              go_wp2_with fail
              go_roundg u
              case measure => omega
              case rel => exact ⟨u, dd, _, by omega, rfl, rfl, rfl, rfl, HV, HE7⟩
end Go.Proofs.YtbhenelehhiakaaGreat
/-
  The references' natural numbers, part 7: Gcd by halves and differences.
-/
namespace Go.Proofs.YtbhenelehhiakaaGreat
open Go.RowKit

theorem pow_two_le_nl {s x n : Nat} (h : 2 ^ s ≤ x) (hn : nl x ≤ n) : s ≤ 32 * n := by
  have h1 := lt_pow_nl x
  have h2 : (4294967296 : Nat) ^ nl x = 2 ^ (32 * nl x) := by
    rw [Nat.pow_mul, show (2 : Nat) ^ 32 = 4294967296 from by decide]
  rw [h2] at h1
  have h3 : 2 ^ s < 2 ^ (32 * nl x) := Nat.lt_of_le_of_lt h h1
  have := (Nat.pow_lt_pow_iff_right (by decide : 1 < 2)).1 h3
  omega

/-- the lowest limb of a number that is not 0 -/
theorem limb0 {B : Nat} {w : World} {a : Option Addr} {n c X : Nat} (h : NatS B w a n c (limbs X)) (hX : 0 < X) : 0 < n ∧ ∃ b o d, a = some ⟨b, o, none⟩ ∧ w.cell? ⟨b, o, none⟩ = some (.int .u32 ((d : Nat) : Int)) ∧ (d : Int) % 2 = ((X % 2 : Nat) : Int) ∧ d < 4294967296 := by
  have hp : 0 < n := by
    have := h.len
    rw [length_limbs] at this
    have := nl_pos hX
    omega
  obtain ⟨b, o, h1, h2, h3⟩ := NatS.at' h hp
  have h4 := val_odd (l := limbs X) (by rw [h.len]; exact hp)
  rw [val_limbs] at h4
  exact ⟨hp, b, o, _, h1, by simpa using h3, by omega, (small_limbs X).get 0⟩

theorem lt_cmpI {a b : Nat} (h : a < b) : decide (0 ≤ cmpI a b) = false := by rw [cmpI_lt h]; rfl
theorem ge_cmpI {a b : Nat} (h : b ≤ a) : decide (0 ≤ cmpI a b) = true := by
  rcases Nat.lt_or_ge b a with h1 | h1
  · rw [cmpI_gt h1]; rfl
  · rw [cmpI_eq (by omega)]; rfl

theorem limb_zero {B : Nat} {w : World} {a : Option Addr} {n c X : Nat} (h : NatS B w a n c (limbs X)) : n = nl X := h.len.symm

set_option maxRecDepth 100000 in
set_option maxHeartbeats 4000000 in
theorem r1Gcd_any (B : Nat) (w : World) (a a2 : Option Addr) (n c n2 c2 : Nat) (l l2 : Nt) (h : NatS B w a n c l) (h2 : NatS B w a2 n2 c2 l2) (hn : n ≤ 549755813888) (hn2 : n2 ≤ 549755813888) (x y : Nat) (hx : Hid (val l = x)) (hy : Hid (val l2 = y)) :
    Calls Tryz.prog 143 #[.slice a n c, .slice a2 n2 c2] w (RNat w (Nat.gcd x y)) := by
  have hnx : nl x ≤ n := by have := nl_val h.small; rw [hx.out, h.len] at this; exact this
  have hny : nl y ≤ n2 := by have := nl_val h2.small; rw [hy.out, h2.len] at this; exact this
  go_enter Tryz.func143, Tryz.ntmps143
  go_wp2_with fail
  refine (r1Norm_any B w a n c l h (by omega)).mono ?_
  rintro e w1 ⟨a3, n3, c3, rfl, h3, hE1⟩
  go_wp2_with fail
  refine (r1Norm_any B w1 a2 n2 c2 l2 (h2.ext (Nat.le_refl _) hE1) (by omega)).mono ?_
  rintro e w2 ⟨a4, n4, c4, rfl, h4, hE2⟩
  have h3 := h3.ext (Nat.le_refl _) hE2
  have hE := Ext.trans hE1 hE2
  rw [hx.out] at h3
  rw [hy.out] at h4
  have h4 := h4.mono hE1.size (Kept.refl _ _)
  have H3 := Lib.hid h3
  have H4 := Lib.hid h4
  have HE := Lib.hid hE
  clear h h2 h3 h4 hE1 hE2 hx hy hE
  by_cases hx0 : x = 0
  · subst hx0
    obtain rfl : n3 = 0 := limb_zero H3.out
    have HF : Hid (RNat w (Nat.gcd 0 y) (.returned (.slice a4 n4 c4)) w2) := Lib.hid (by rw [Nat.gcd_zero_left]; exact RNat.intro H4.out HE.out)
    go_wp2_with fail
    go_ret
    exact HF.out
  · have hn3 : ((n3 : Int) == 0) = false := by
      have := (limb0 H3.out (by omega)).1
      simp; omega
    by_cases hy0 : y = 0
    · subst hy0
      obtain rfl : n4 = 0 := limb_zero H4.out
      have HF : Hid (RNat w (Nat.gcd x 0) (.returned (.slice a3 n3 c3)) w2) := Lib.hid (by rw [Nat.gcd_zero_right]; exact RNat.intro H3.out HE.out)
      go_wp2_with fail
      go_ret
      exact HF.out
    · have hn4 : ((n4 : Int) == 0) = false := by
        have := (limb0 H4.out (by omega)).1
        simp; omega
      have hxp : 0 < x := by omega
      have hyp : 0 < y := by omega
      clear hx0 hy0
      go_wp2_with fail
      go_loopg [0, 1, 5] x (fun q va vb vs wr => ∃ (aa ab : Option Addr) (na ca nb cb X Y s : Nat), q = X ∧ va = .slice aa na ca ∧ vb = .slice ab nb cb ∧ vs = .int .i64 (s : Int) ∧ Hid (NatS w.heap.size wr aa na ca (limbs X)) ∧ Hid (NatS w.heap.size wr ab nb cb (limbs Y)) ∧ 0 < X ∧ 0 < Y ∧ Hid (x = 2 ^ s * X ∧ y = 2 ^ s * Y) ∧ Hid (Ext w wr))
      case atStart => exact ⟨a3, a4, n3, c3, n4, c4, x, y, 0, rfl, rfl, rfl, rfl, H3, H4, hxp, hyp, Lib.hid ⟨by simp, by simp⟩, HE⟩
      case round =>
        obtain ⟨aa, ab, na, ca, nb, cb, X, Y, s, hq, rfl, rfl, rfl, HA, HB, hX, hY, HS, HEr⟩ := hrel
        obtain ⟨hna, b5, o5, d5, rfl, hc5, hd5, _⟩ := limb0 HA.out hX
        obtain ⟨hnb, b6, o6, d6, rfl, hc6, hd6, _⟩ := limb0 HB.out hY
        have hXx : X ≤ x := by rw [HS.out.1]; exact Nat.le_mul_of_pos_left _ (Nat.two_pow_pos s)
        have hYy : Y ≤ y := by rw [HS.out.2]; exact Nat.le_mul_of_pos_left _ (Nat.two_pow_pos s)
        have hs : s ≤ 32 * n := pow_two_le_nl (x := x) (by rw [HS.out.1]; exact Nat.le_mul_of_pos_right _ hX) hnx
        have hnlX : na ≤ n := by rw [limb_zero HA.out]; exact Nat.le_trans (nl_mono hXx) hnx
        have hnlY : nb ≤ n2 := by rw [limb_zero HB.out]; exact Nat.le_trans (nl_mono hYy) hny
        by_cases hev : X % 2 = 0 ∧ Y % 2 = 0
        · obtain ⟨hx2, hy2⟩ := hev
          rw [hx2] at hd5
          rw [hy2] at hd6
          replace hd5 : (d5 : Int) % 2 = 0 := hd5
          replace hd6 : (d6 : Int) % 2 = 0 := hd6
          have HX : Hid (x = 2 ^ (s + 1) * (X / 2) ∧ y = 2 ^ (s + 1) * (Y / 2)) := Lib.hid (by
            rw [Nat.pow_succ, Nat.mul_assoc, Nat.mul_assoc, show 2 * (X / 2) = X by omega, show 2 * (Y / 2) = Y by omega]
            exact HS.out)
          have hX2 : 0 < X / 2 := by omega
          have hY2 : 0 < Y / 2 := by omega
          have hmx : X / 2 < X := by omega
          have HV : Hid (val (limbs X) / 2 = X / 2) := Lib.hid (by rw [val_limbs])
          have HV2 : Hid (val (limbs Y) / 2 = Y / 2) := Lib.hid (by rw [val_limbs])
          clear hx2 hy2
          generalize X / 2 = X2 at *
          generalize Y / 2 = Y2 at *
          go_wp2_with fail
          refine (r1half_any w.heap.size wr _ _ _ _ HA.out (by omega) X2 HV).mono ?_
          rintro e w5 ⟨a7, n7, c7, rfl, h7, hE7⟩
          go_wp2_with fail
          refine (r1half_any w.heap.size w5 _ _ _ _ (HB.out.ext (Nat.le_refl _) hE7) (by omega) Y2 HV2).mono ?_
          rintro e w6 ⟨a8, n8, c8, rfl, h8, hE8⟩
          have H7 := Lib.hid ((h7.ext (Nat.le_refl _) hE8).mono HEr.out.size (Kept.refl _ _))
          have H8 := Lib.hid (h8.mono (Nat.le_trans HEr.out.size hE7.size) (Kept.refl _ _))
          have HE8 := Lib.hid (Ext.trans HEr.out (Ext.trans hE7 hE8))
          clear h7 h8 hE7 hE8
          go_wp2_with fail
          go_roundg X2
          case measure => omega
          case rel => exact ⟨a7, a8, n7, c7, n8, c8, X2, Y2, s + 1, rfl, rfl, rfl, by go_num, H7, H8, hX2, hY2, HX, HE8⟩
        · have HG : Hid (Nat.gcd x y = 2 ^ s * Nat.gcd X Y) := Lib.hid (by
            conv => lhs; rw [HS.out.1, HS.out.2]
            exact Nat.gcd_mul_left ..)
          have hpar : X % 2 = 1 ∨ Y % 2 = 1 := by omega
          have hXB := hXx
          have hYB := hYy
          obtain ⟨wo, rfl⟩ : ∃ wo : World, wo = wr := ⟨_, rfl⟩
          have hev2 : X % 2 = 1 ∨ X % 2 = 0 ∧ Y % 2 = 1 := by omega
          clear hev
          rcases hev2 with hx2 | ⟨hx2, hy2⟩
          · rw [hx2] at hd5
            replace hd5 : (d5 : Int) % 2 = 1 := hd5
            clear hx2
            go_wp2_with fail
            go_loopg [0, 1] (X + Y) (fun q va vb wr2 => ∃ (aa ab : Option Addr) (na ca nb cb P Q : Nat), q = P + Q ∧ va = .slice aa na ca ∧ vb = .slice ab nb cb ∧ Hid (NatS w.heap.size wr2 aa na ca (limbs P)) ∧ Hid (NatS w.heap.size wr2 ab nb cb (limbs Q)) ∧ Hid (Nat.gcd P Q = Nat.gcd X Y) ∧ (P % 2 = 1 ∨ Q % 2 = 1) ∧ P ≤ X ∧ Q ≤ Y ∧ Hid (Ext w wr2))
            case atStart => exact ⟨_, _, _, _, _, _, X, Y, rfl, rfl, rfl, HA, HB, Lib.hid rfl, hpar, Nat.le_refl _, Nat.le_refl _, HEr⟩
            case round =>
              obtain ⟨aa, ab, na, ca, nb, cb, P, Q, hq2, rfl, rfl, HP, HQ, HG2, hpar2, hPX, hQY, HE2⟩ := hrel
              clear hc5 hc6 hd5 hd6 HA HB HEr
              have hnaB : na ≤ n := by rw [limb_zero HP.out]; exact Nat.le_trans (nl_mono (Nat.le_trans hPX hXB)) hnx
              have hnbB : nb ≤ n2 := by rw [limb_zero HQ.out]; exact Nat.le_trans (nl_mono (Nat.le_trans hQY hYB)) hny
              by_cases hP0 : P = 0
              · subst hP0
                obtain rfl : na = 0 := limb_zero HP.out
                have HVL : Hid (val (limbs Q) * 2 ^ s = Nat.gcd x y) := Lib.hid (by rw [val_limbs, HG.out, ← HG2.out, Nat.gcd_zero_left, Nat.mul_comm])
                clear hq2
                go_wp2_with fail
                refine (r1Left_any w.heap.size wr _ _ _ _ HQ.out (by omega) s (by omega) (Nat.gcd x y) HVL).mono ?_
                rintro e w9 ⟨a9, n9, c9, rfl, h9, hE9⟩
                have HF := Lib.hid (RNat.intro (h9.mono HE2.out.size (Kept.refl _ _)) (Ext.trans HE2.out hE9))
                clear h9 hE9
                go_wp2_with fail
                go_ret
                exact HF.out
              · obtain ⟨hnap, b5, o5, d5, rfl, hc5, hd5, _⟩ := limb0 HP.out (by omega)
                have hna0 : ((na : Int) == 0) = false := by simp; omega
                by_cases hQ0 : Q = 0
                · subst hQ0
                  obtain rfl : nb = 0 := limb_zero HQ.out
                  have HVL : Hid (val (limbs P) * 2 ^ s = Nat.gcd x y) := Lib.hid (by rw [val_limbs, HG.out, ← HG2.out, Nat.gcd_zero_right, Nat.mul_comm])
                  clear hq2 hd5
                  go_wp2_with fail
                  refine (r1Left_any w.heap.size wr _ _ _ _ HP.out (by omega) s (by omega) (Nat.gcd x y) HVL).mono ?_
                  rintro e w9 ⟨a9, n9, c9, rfl, h9, hE9⟩
                  have HF := Lib.hid (RNat.intro (h9.mono HE2.out.size (Kept.refl _ _)) (Ext.trans HE2.out hE9))
                  clear h9 hE9
                  go_wp2_with fail
                  go_ret
                  exact HF.out
                · obtain ⟨hnbp, b6, o6, d6, rfl, hc6, hd6, _⟩ := limb0 HQ.out (by omega)
                  have hPp : 0 < P := by omega
                  have hQp : 0 < Q := by omega
                  clear hP0 hQ0 hd5 hd6 hc5 hc6
                  obtain ⟨wp, rfl⟩ : ∃ wp : World, wp = wr := ⟨_, rfl⟩
                  go_wp2_with fail
                  go_loopg [0] P (fun q va wr3 => ∃ (aa : Option Addr) (na ca R : Nat), q = R ∧ va = .slice aa na ca ∧ Hid (NatS w.heap.size wr3 aa na ca (limbs R)) ∧ Hid (NatS w.heap.size wr3 (some ⟨b6, o6, none⟩) nb cb (limbs Q)) ∧ Hid (Nat.gcd R Q = Nat.gcd X Y) ∧ (R % 2 = 1 ∨ Q % 2 = 1) ∧ 0 < R ∧ R ≤ P ∧ Hid (Ext w wr3))
                  case atStart => exact ⟨_, _, _, P, rfl, rfl, HP, HQ, HG2, hpar2, hPp, Nat.le_refl _, HE2⟩
                  case round =>
                    obtain ⟨aa, na2, ca2, R, hq3, rfl, HR, HQ3, HG3, hpar3, hR, hRP, HE3⟩ := hrel
                    clear HP HQ HE2 HG2
                    obtain ⟨hnr, b5, o5, d5, rfl, hc5, hd5, _⟩ := limb0 HR.out hR
                    have hnrB : na2 ≤ n := by rw [limb_zero HR.out]; exact Nat.le_trans (nl_mono (Nat.le_trans hRP (Nat.le_trans hPX hXB))) hnx
                    by_cases hev : R % 2 = 0
                    · have HV : Hid (val (limbs R) / 2 = R / 2) := Lib.hid (by rw [val_limbs])
                      have HG4 : Hid (Nat.gcd (R / 2) Q = Nat.gcd X Y) := Lib.hid ((gcd_half_left hev (by omega)).trans HG3.out)
                      have hQo : Q % 2 = 1 := by omega
                      have hR2 : 0 < R / 2 := by omega
                      have hR3 : R / 2 < R := by omega
                      rw [hev] at hd5
                      replace hd5 : (d5 : Int) % 2 = 0 := hd5
                      clear hev HG3
                      have hpar5 : (R / 2) % 2 = 1 ∨ Q % 2 = 1 := .inr hQo
                      generalize R / 2 = R2 at *
                      clear hQo hpar3
                      go_wp2_with fail
                      refine (r1half_any w.heap.size wr _ _ _ _ HR.out (by omega) R2 HV).mono ?_
                      rintro e w7 ⟨a7, n7, c7, rfl, h7, hE7⟩
                      have H7 := Lib.hid (h7.mono HE3.out.size (Kept.refl _ _))
                      have HO7 := Lib.hid (HQ3.out.ext (Nat.le_refl _) hE7)
                      have HE7 := Lib.hid (Ext.trans HE3.out hE7)
                      clear h7 hE7
                      go_wp2_with fail
                      go_roundg R2
                      case measure => omega
                      case rel => exact ⟨a7, n7, c7, R2, rfl, rfl, H7, HO7, HG4, hpar5, hR2, by omega, HE7⟩
                    · have hRo : R % 2 = 1 := by omega
                      rw [hRo] at hd5
                      replace hd5 : (d5 : Int) % 2 = 1 := hd5
                      have HRo := Lib.hid hRo
                      clear hev hRo hpar3
                      obtain ⟨wp3, rfl⟩ : ∃ wp3 : World, wp3 = wr := ⟨_, rfl⟩
                      go_wp2_with fail
                      go_loopg [1] Q (fun q vb wr4 => ∃ (ab : Option Addr) (nb cb T : Nat), q = T ∧ vb = .slice ab nb cb ∧ Hid (NatS w.heap.size wr4 ab nb cb (limbs T)) ∧ Hid (NatS w.heap.size wr4 (some ⟨b5, o5, none⟩) na2 ca2 (limbs R)) ∧ Hid (Nat.gcd R T = Nat.gcd X Y) ∧ 0 < T ∧ T ≤ Q ∧ Hid (Ext w wr4))
                      case atStart => exact ⟨_, _, _, Q, rfl, rfl, HQ3, HR, HG3, hQp, Nat.le_refl _, HE3⟩
                      case round =>
                        obtain ⟨ab, nb2, cb2, T, hq4, rfl, HT, HR4, HG4, hT, hTQ, HE4⟩ := hrel
                        clear hc5 hd5 HR HQ3 HG3 HE3
                        obtain ⟨hnt, b7, o7, d7, rfl, hc7, hd7, _⟩ := limb0 HT.out hT
                        have hntB : nb2 ≤ n2 := by rw [limb_zero HT.out]; exact Nat.le_trans (nl_mono (Nat.le_trans hTQ (Nat.le_trans hQY hYB))) hny
                        by_cases hev : T % 2 = 0
                        · have HV : Hid (val (limbs T) / 2 = T / 2) := Lib.hid (by rw [val_limbs])
                          have HG5 : Hid (Nat.gcd R (T / 2) = Nat.gcd X Y) := Lib.hid ((gcd_half_right HRo.out hev).trans HG4.out)
                          have hT2 : 0 < T / 2 := by omega
                          have hT3 : T / 2 < T := by omega
                          rw [hev] at hd7
                          replace hd7 : (d7 : Int) % 2 = 0 := hd7
                          clear hev HG4
                          generalize T / 2 = T2 at *
                          go_wp2_with fail
                          refine (r1half_any w.heap.size wr _ _ _ _ HT.out (by omega) T2 HV).mono ?_
                          rintro e w7 ⟨a7, n7, c7, rfl, h7, hE7⟩
                          have H7 := Lib.hid (h7.mono HE4.out.size (Kept.refl _ _))
                          have HO7 := Lib.hid (HR4.out.ext (Nat.le_refl _) hE7)
                          have HE7 := Lib.hid (Ext.trans HE4.out hE7)
                          clear h7 hE7
                          go_wp2_with fail
                          go_roundg T2
                          case measure => omega
                          case rel => exact ⟨a7, n7, c7, T2, rfl, rfl, H7, HO7, HG5, hT2, by omega, HE7⟩
                        · have hTo : T % 2 = 1 := by omega
                          rw [hTo] at hd7
                          replace hd7 : (d7 : Int) % 2 = 1 := hd7
                          have HTo := Lib.hid hTo
                          clear hev hTo
                          by_cases hlt : R < T
                          · have hc0 := lt_cmpI hlt
                            have HG5 : Hid (Nat.gcd R (T - R) = Nat.gcd X Y) := Lib.hid ((gcd_sub_right (Nat.le_of_lt hlt)).trans HG4.out)
                            have HSB : Hid (val (limbs T) - val (limbs R) = T - R) := Lib.hid (by rw [val_limbs, val_limbs])
                            go_wp2_with (go_at_call 150; refine (r1Cmp_any w.heap.size wr _ _ _ _ _ _ _ _ HR4.out HT.out R T (Lib.hid (val_limbs _)) (Lib.hid (val_limbs _))).mono ?_; rintro e w5 ⟨rfl, rfl⟩)
                            refine (r1Sub_any w.heap.size wr _ _ _ _ _ _ _ _ HT.out HR4.out (by omega) (by rw [limb_zero HT.out, limb_zero HR4.out]; exact nl_mono (Nat.le_of_lt hlt)) (T - R) (by rw [val_limbs, val_limbs]; omega) HSB).mono ?_
                            rintro e w7 ⟨a7, n7, c7, rfl, h7, hE7⟩
                            have H7 := Lib.hid (h7.mono HE4.out.size (Kept.refl _ _))
                            have HO7 := Lib.hid (HR4.out.ext (Nat.le_refl _) hE7)
                            have HE7 := Lib.hid (Ext.trans HE4.out hE7)
                            clear h7 hE7 hc0
                            go_wp2_with fail
                            go_roundg (R + (T - R))
                            case measure => omega
                            case rel => exact ⟨_, a7, na2, ca2, n7, c7, R, T - R, rfl, rfl, rfl, HO7, H7, HG5, .inl HRo.out, by omega, by omega, HE7⟩
                          · have hc0 := ge_cmpI (Nat.le_of_not_lt hlt)
                            have HG5 : Hid (Nat.gcd (R - T) T = Nat.gcd X Y) := Lib.hid ((gcd_sub_left (Nat.le_of_not_lt hlt)).trans HG4.out)
                            have HSB : Hid (val (limbs R) - val (limbs T) = R - T) := Lib.hid (by rw [val_limbs, val_limbs])
                            go_wp2_with (go_at_call 150; refine (r1Cmp_any w.heap.size wr _ _ _ _ _ _ _ _ HR4.out HT.out R T (Lib.hid (val_limbs _)) (Lib.hid (val_limbs _))).mono ?_; rintro e w5 ⟨rfl, rfl⟩)
                            refine (r1Sub_any w.heap.size wr _ _ _ _ _ _ _ _ HR4.out HT.out (by omega) (by rw [limb_zero HT.out, limb_zero HR4.out]; exact nl_mono (Nat.le_of_not_lt hlt)) (R - T) (by rw [val_limbs, val_limbs]; omega) HSB).mono ?_
                            rintro e w7 ⟨a7, n7, c7, rfl, h7, hE7⟩
                            have H7 := Lib.hid (h7.mono HE4.out.size (Kept.refl _ _))
                            have HO7 := Lib.hid (HT.out.ext (Nat.le_refl _) hE7)
                            have HE7 := Lib.hid (Ext.trans HE4.out hE7)
                            clear h7 hE7 hc0
                            go_wp2_with fail
                            go_roundg ((R - T) + T)
                            case measure => omega
                            case rel => exact ⟨a7, _, n7, c7, nb2, cb2, R - T, T, rfl, rfl, rfl, H7, HO7, HG5, .inr HTo.out, by omega, by omega, HE7⟩
          · rw [hx2] at hd5
            rw [hy2] at hd6
            replace hd5 : (d5 : Int) % 2 = 0 := hd5
            replace hd6 : (d6 : Int) % 2 = 1 := hd6
            clear hx2 hy2
            go_wp2_with fail
            go_loopg [0, 1] (X + Y) (fun q va vb wr2 => ∃ (aa ab : Option Addr) (na ca nb cb P Q : Nat), q = P + Q ∧ va = .slice aa na ca ∧ vb = .slice ab nb cb ∧ Hid (NatS w.heap.size wr2 aa na ca (limbs P)) ∧ Hid (NatS w.heap.size wr2 ab nb cb (limbs Q)) ∧ Hid (Nat.gcd P Q = Nat.gcd X Y) ∧ (P % 2 = 1 ∨ Q % 2 = 1) ∧ P ≤ X ∧ Q ≤ Y ∧ Hid (Ext w wr2))
            case atStart => exact ⟨_, _, _, _, _, _, X, Y, rfl, rfl, rfl, HA, HB, Lib.hid rfl, hpar, Nat.le_refl _, Nat.le_refl _, HEr⟩
            case round =>
              obtain ⟨aa, ab, na, ca, nb, cb, P, Q, hq2, rfl, rfl, HP, HQ, HG2, hpar2, hPX, hQY, HE2⟩ := hrel
              clear hc5 hc6 hd5 hd6 HA HB HEr
              have hnaB : na ≤ n := by rw [limb_zero HP.out]; exact Nat.le_trans (nl_mono (Nat.le_trans hPX hXB)) hnx
              have hnbB : nb ≤ n2 := by rw [limb_zero HQ.out]; exact Nat.le_trans (nl_mono (Nat.le_trans hQY hYB)) hny
              by_cases hP0 : P = 0
              · subst hP0
                obtain rfl : na = 0 := limb_zero HP.out
                have HVL : Hid (val (limbs Q) * 2 ^ s = Nat.gcd x y) := Lib.hid (by rw [val_limbs, HG.out, ← HG2.out, Nat.gcd_zero_left, Nat.mul_comm])
                clear hq2
                go_wp2_with fail
                refine (r1Left_any w.heap.size wr _ _ _ _ HQ.out (by omega) s (by omega) (Nat.gcd x y) HVL).mono ?_
                rintro e w9 ⟨a9, n9, c9, rfl, h9, hE9⟩
                have HF := Lib.hid (RNat.intro (h9.mono HE2.out.size (Kept.refl _ _)) (Ext.trans HE2.out hE9))
                clear h9 hE9
                go_wp2_with fail
                go_ret
                exact HF.out
              · obtain ⟨hnap, b5, o5, d5, rfl, hc5, hd5, _⟩ := limb0 HP.out (by omega)
                have hna0 : ((na : Int) == 0) = false := by simp; omega
                by_cases hQ0 : Q = 0
                · subst hQ0
                  obtain rfl : nb = 0 := limb_zero HQ.out
                  have HVL : Hid (val (limbs P) * 2 ^ s = Nat.gcd x y) := Lib.hid (by rw [val_limbs, HG.out, ← HG2.out, Nat.gcd_zero_right, Nat.mul_comm])
                  clear hq2 hd5
                  go_wp2_with fail
                  refine (r1Left_any w.heap.size wr _ _ _ _ HP.out (by omega) s (by omega) (Nat.gcd x y) HVL).mono ?_
                  rintro e w9 ⟨a9, n9, c9, rfl, h9, hE9⟩
                  have HF := Lib.hid (RNat.intro (h9.mono HE2.out.size (Kept.refl _ _)) (Ext.trans HE2.out hE9))
                  clear h9 hE9
                  go_wp2_with fail
                  go_ret
                  exact HF.out
                · obtain ⟨hnbp, b6, o6, d6, rfl, hc6, hd6, _⟩ := limb0 HQ.out (by omega)
                  have hPp : 0 < P := by omega
                  have hQp : 0 < Q := by omega
                  clear hP0 hQ0 hd5 hd6 hc5 hc6
                  obtain ⟨wp, rfl⟩ : ∃ wp : World, wp = wr := ⟨_, rfl⟩
                  go_wp2_with fail
                  go_loopg [0] P (fun q va wr3 => ∃ (aa : Option Addr) (na ca R : Nat), q = R ∧ va = .slice aa na ca ∧ Hid (NatS w.heap.size wr3 aa na ca (limbs R)) ∧ Hid (NatS w.heap.size wr3 (some ⟨b6, o6, none⟩) nb cb (limbs Q)) ∧ Hid (Nat.gcd R Q = Nat.gcd X Y) ∧ (R % 2 = 1 ∨ Q % 2 = 1) ∧ 0 < R ∧ R ≤ P ∧ Hid (Ext w wr3))
                  case atStart => exact ⟨_, _, _, P, rfl, rfl, HP, HQ, HG2, hpar2, hPp, Nat.le_refl _, HE2⟩
                  case round =>
                    obtain ⟨aa, na2, ca2, R, hq3, rfl, HR, HQ3, HG3, hpar3, hR, hRP, HE3⟩ := hrel
                    clear HP HQ HE2 HG2
                    obtain ⟨hnr, b5, o5, d5, rfl, hc5, hd5, _⟩ := limb0 HR.out hR
                    have hnrB : na2 ≤ n := by rw [limb_zero HR.out]; exact Nat.le_trans (nl_mono (Nat.le_trans hRP (Nat.le_trans hPX hXB))) hnx
                    by_cases hev : R % 2 = 0
                    · have HV : Hid (val (limbs R) / 2 = R / 2) := Lib.hid (by rw [val_limbs])
                      have HG4 : Hid (Nat.gcd (R / 2) Q = Nat.gcd X Y) := Lib.hid ((gcd_half_left hev (by omega)).trans HG3.out)
                      have hQo : Q % 2 = 1 := by omega
                      have hR2 : 0 < R / 2 := by omega
                      have hR3 : R / 2 < R := by omega
                      rw [hev] at hd5
                      replace hd5 : (d5 : Int) % 2 = 0 := hd5
                      clear hev HG3
                      have hpar5 : (R / 2) % 2 = 1 ∨ Q % 2 = 1 := .inr hQo
                      generalize R / 2 = R2 at *
                      clear hQo hpar3
                      go_wp2_with fail
                      refine (r1half_any w.heap.size wr _ _ _ _ HR.out (by omega) R2 HV).mono ?_
                      rintro e w7 ⟨a7, n7, c7, rfl, h7, hE7⟩
                      have H7 := Lib.hid (h7.mono HE3.out.size (Kept.refl _ _))
                      have HO7 := Lib.hid (HQ3.out.ext (Nat.le_refl _) hE7)
                      have HE7 := Lib.hid (Ext.trans HE3.out hE7)
                      clear h7 hE7
                      go_wp2_with fail
                      go_roundg R2
                      case measure => omega
                      case rel => exact ⟨a7, n7, c7, R2, rfl, rfl, H7, HO7, HG4, hpar5, hR2, by omega, HE7⟩
                    · have hRo : R % 2 = 1 := by omega
                      rw [hRo] at hd5
                      replace hd5 : (d5 : Int) % 2 = 1 := hd5
                      have HRo := Lib.hid hRo
                      clear hev hRo hpar3
                      obtain ⟨wp3, rfl⟩ : ∃ wp3 : World, wp3 = wr := ⟨_, rfl⟩
                      go_wp2_with fail
                      go_loopg [1] Q (fun q vb wr4 => ∃ (ab : Option Addr) (nb cb T : Nat), q = T ∧ vb = .slice ab nb cb ∧ Hid (NatS w.heap.size wr4 ab nb cb (limbs T)) ∧ Hid (NatS w.heap.size wr4 (some ⟨b5, o5, none⟩) na2 ca2 (limbs R)) ∧ Hid (Nat.gcd R T = Nat.gcd X Y) ∧ 0 < T ∧ T ≤ Q ∧ Hid (Ext w wr4))
                      case atStart => exact ⟨_, _, _, Q, rfl, rfl, HQ3, HR, HG3, hQp, Nat.le_refl _, HE3⟩
                      case round =>
                        obtain ⟨ab, nb2, cb2, T, hq4, rfl, HT, HR4, HG4, hT, hTQ, HE4⟩ := hrel
                        clear hc5 hd5 HR HQ3 HG3 HE3
                        obtain ⟨hnt, b7, o7, d7, rfl, hc7, hd7, _⟩ := limb0 HT.out hT
                        have hntB : nb2 ≤ n2 := by rw [limb_zero HT.out]; exact Nat.le_trans (nl_mono (Nat.le_trans hTQ (Nat.le_trans hQY hYB))) hny
                        by_cases hev : T % 2 = 0
                        · have HV : Hid (val (limbs T) / 2 = T / 2) := Lib.hid (by rw [val_limbs])
                          have HG5 : Hid (Nat.gcd R (T / 2) = Nat.gcd X Y) := Lib.hid ((gcd_half_right HRo.out hev).trans HG4.out)
                          have hT2 : 0 < T / 2 := by omega
                          have hT3 : T / 2 < T := by omega
                          rw [hev] at hd7
                          replace hd7 : (d7 : Int) % 2 = 0 := hd7
                          clear hev HG4
                          generalize T / 2 = T2 at *
                          go_wp2_with fail
                          refine (r1half_any w.heap.size wr _ _ _ _ HT.out (by omega) T2 HV).mono ?_
                          rintro e w7 ⟨a7, n7, c7, rfl, h7, hE7⟩
                          have H7 := Lib.hid (h7.mono HE4.out.size (Kept.refl _ _))
                          have HO7 := Lib.hid (HR4.out.ext (Nat.le_refl _) hE7)
                          have HE7 := Lib.hid (Ext.trans HE4.out hE7)
                          clear h7 hE7
                          go_wp2_with fail
                          go_roundg T2
                          case measure => omega
                          case rel => exact ⟨a7, n7, c7, T2, rfl, rfl, H7, HO7, HG5, hT2, by omega, HE7⟩
                        · have hTo : T % 2 = 1 := by omega
                          rw [hTo] at hd7
                          replace hd7 : (d7 : Int) % 2 = 1 := hd7
                          have HTo := Lib.hid hTo
                          clear hev hTo
                          by_cases hlt : R < T
                          · have hc0 := lt_cmpI hlt
                            have HG5 : Hid (Nat.gcd R (T - R) = Nat.gcd X Y) := Lib.hid ((gcd_sub_right (Nat.le_of_lt hlt)).trans HG4.out)
                            have HSB : Hid (val (limbs T) - val (limbs R) = T - R) := Lib.hid (by rw [val_limbs, val_limbs])
                            go_wp2_with (go_at_call 150; refine (r1Cmp_any w.heap.size wr _ _ _ _ _ _ _ _ HR4.out HT.out R T (Lib.hid (val_limbs _)) (Lib.hid (val_limbs _))).mono ?_; rintro e w5 ⟨rfl, rfl⟩)
                            refine (r1Sub_any w.heap.size wr _ _ _ _ _ _ _ _ HT.out HR4.out (by omega) (by rw [limb_zero HT.out, limb_zero HR4.out]; exact nl_mono (Nat.le_of_lt hlt)) (T - R) (by rw [val_limbs, val_limbs]; omega) HSB).mono ?_
                            rintro e w7 ⟨a7, n7, c7, rfl, h7, hE7⟩
                            have H7 := Lib.hid (h7.mono HE4.out.size (Kept.refl _ _))
                            have HO7 := Lib.hid (HR4.out.ext (Nat.le_refl _) hE7)
                            have HE7 := Lib.hid (Ext.trans HE4.out hE7)
                            clear h7 hE7 hc0
                            go_wp2_with fail
                            go_roundg (R + (T - R))
                            case measure => omega
                            case rel => exact ⟨_, a7, na2, ca2, n7, c7, R, T - R, rfl, rfl, rfl, HO7, H7, HG5, .inl HRo.out, by omega, by omega, HE7⟩
                          · have hc0 := ge_cmpI (Nat.le_of_not_lt hlt)
                            have HG5 : Hid (Nat.gcd (R - T) T = Nat.gcd X Y) := Lib.hid ((gcd_sub_left (Nat.le_of_not_lt hlt)).trans HG4.out)
                            have HSB : Hid (val (limbs R) - val (limbs T) = R - T) := Lib.hid (by rw [val_limbs, val_limbs])
                            go_wp2_with (go_at_call 150; refine (r1Cmp_any w.heap.size wr _ _ _ _ _ _ _ _ HR4.out HT.out R T (Lib.hid (val_limbs _)) (Lib.hid (val_limbs _))).mono ?_; rintro e w5 ⟨rfl, rfl⟩)
                            refine (r1Sub_any w.heap.size wr _ _ _ _ _ _ _ _ HR4.out HT.out (by omega) (by rw [limb_zero HT.out, limb_zero HR4.out]; exact nl_mono (Nat.le_of_not_lt hlt)) (R - T) (by rw [val_limbs, val_limbs]; omega) HSB).mono ?_
                            rintro e w7 ⟨a7, n7, c7, rfl, h7, hE7⟩
                            have H7 := Lib.hid (h7.mono HE4.out.size (Kept.refl _ _))
                            have HO7 := Lib.hid (HT.out.ext (Nat.le_refl _) hE7)
                            have HE7 := Lib.hid (Ext.trans HE4.out hE7)
                            clear h7 hE7 hc0
                            go_wp2_with fail
                            go_roundg ((R - T) + T)
                            case measure => omega
                            case rel => exact ⟨a7, _, n7, c7, nb2, cb2, R - T, T, rfl, rfl, rfl, H7, HO7, HG5, .inr HTo.out, by omega, by omega, HE7⟩
end Go.Proofs.YtbhenelehhiakaaGreat
