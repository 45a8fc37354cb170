/-
  A part.
-/
import Derived.BigQuiet
import Derived.Deep.QuietTactic
import Derived.Test.YtbhenelehhiakaaGreatSum3
set_option linter.unusedVariables false
set_option linter.unusedSimpArgs false
namespace Go.Proofs.YtbhenelehhiakaaGreat
open Go.RowKit

set_option maxHeartbeats 400000 in
theorem natNorm_any (B : Nat) (w : World) (a : Option Addr) (n c : Nat) (l : Nt) (h : NatS B w a n c l) (hn : n ≤ 17592186044416) :
    Calls Tryz.prog 136 #[.slice a n c] w (RNat w (val l)) := by
  go_enter Tryz.func136, Tryz.ntmps136
  go_wp2_with fail
  refine (own_any B w a n c l h hn).mono ?_
  rintro e w1 ⟨a1, n1, c1, rfl, h1, hE⟩
  go_wp2_with fail
  go_ret
  exact ⟨a1, n1, c1, rfl, h1, hE⟩

set_option maxHeartbeats 400000 in
theorem natOf_any (x : Nat) (w : World) (hx : x < 18446744073709551616) :
    Calls Tryz.prog 107 #[.int .u64 (x : Int)] w (RNat w x) := by
  go_enter Tryz.func107, Tryz.ntmps107
  go_wp2_with fail
  refine (own_any w.heap.size _ (some ⟨w.heap.size, 0, none⟩) 2 2 [x % 4294967296, x / 4294967296] (Blk.nat (l := [x % 4294967296, x / 4294967296]) (Blk.new w 126 (words [x % 4294967296, x / 4294967296])) (Nat.le_refl _) (small_cons (by omega) (small_cons (by omega) small_nil)) 2 (Nat.le_refl _) (Nat.le_refl _) (by omega)) (by omega)).mono ?_
  rintro e w1 ⟨a1, n1, c1, rfl, h1, hE⟩
  have hv : val [x % 4294967296, x / 4294967296] = x := by simp [val]; omega
  rw [hv] at h1
  have hE1 : Ext w w1 := (((Below.refl _ w).alloc (Nat.le_refl _) _)).trans (hE.mono (by simp))
  clear hE hv
  go_wp2_with fail
  go_ret
  exact ⟨a1, n1, c1, rfl, h1.mono (by simp) (Kept.refl _ _), hE1⟩

/-- how two numbers compare, as Go says it -/
def cmpI (m n : Nat) : Int := if m < n then -1 else if n < m then 1 else 0

theorem cmpI_lt {m m2 : Nat} (h : m < m2) : cmpI m m2 = -1 := by unfold cmpI; rw [if_pos h]
theorem cmpI_gt {m m2 : Nat} (h : m2 < m) : cmpI m m2 = 1 := by unfold cmpI; rw [if_neg (by omega), if_pos h]
theorem cmpI_eq {m m2 : Nat} (h : m = m2) : cmpI m m2 = 0 := by unfold cmpI; rw [if_neg (by omega), if_neg (by omega)]

set_option maxHeartbeats 400000 in
theorem cmp_aux (B : Nat) (w : World) (a a2 : Option Addr) (n c n2 c2 : Nat) (l l2 : Nt) (h : NatS B w a n c l) (h2 : NatS B w a2 n2 c2 l2) (m m2 : Nat) (hm : Hid (val l = m)) (hm2 : Hid (val l2 = m2)) :
    Calls Tryz.prog 140 #[.slice a n c, .slice a2 n2 c2] w fun e w' => e = .returned (.int .i64 (cmpI m m2)) ∧ Ext w w' := by
  go_enter Tryz.func140, Tryz.ntmps140
  go_wp2_with fail
  refine (trim_any B w a n c l h).mono ?_
  rintro e w' ⟨k, rfl, hN, rfl⟩
  go_wp2_with fail
  refine (trim_any B w a2 n2 c2 l2 h2).mono ?_
  rintro e w' ⟨k2, rfl, hN2, rfl⟩
  rw [hm.out] at hN
  rw [hm2.out] at hN2
  have hL := hN.len
  have hL2 := hN2.len
  have hmost := hN.most
  have hcap := hN.cap
  clear hm hm2 h h2
  by_cases hk : k = k2
  · subst hk
    have hc : 0 < k → ∃ b o, a = some ⟨b, o, none⟩ ∧ ∃ b2 o2, a2 = some ⟨b2, o2, none⟩ := fun hk0 => by
      obtain ⟨b, o, h1, _⟩ := hN.pos hk0
      obtain ⟨b2, o2, h2, _⟩ := hN2.pos hk0
      exact ⟨b, o, h1, b2, o2, h2⟩
    have HL := Lib.hid hL; clear hL
    have HL2 := Lib.hid hL2; clear hL2
    by_cases hk0 : 0 < k
    · obtain ⟨b, o, rfl, b2, o2, rfl⟩ := hc hk0
      obtain ⟨b', o', e1, _, hb1, hc1, _⟩ := hN.pos hk0
      cases e1
      obtain ⟨b', o', e1, _, hb2, hc2, _⟩ := hN2.pos hk0
      cases e1
      clear hc hN hN2
      have hs1 := small_limbs m
      have hs2 := small_limbs m2
      go_wp2_with fail
      go_loopw [5] (fun i wr => ∃ j : Nat, j ≤ k ∧ (∃ z : Int, i = .int .i64 z ∧ z = (j : Int) - 1) ∧ Hid ((limbs m).drop j = (limbs m2).drop j) ∧ Ext w wr) (fun i _ => (intOf i + 1).toNat)
      case atStart => exact ⟨k, Nat.le_refl _, ⟨_, rfl, rfl⟩, by rw [List.drop_of_length_le (by rw [HL.out]; omega), List.drop_of_length_le (by rw [HL2.out]; omega)]; exact Lib.hid rfl, Ext.refl _⟩
      case round =>
        obtain ⟨j, hj, ⟨z, rfl, hz⟩, hd, hE⟩ := hrel
        by_cases h0 : j = 0
        · subst h0
          obtain rfl : z = -1 := by omega
          clear hz
          have hcm : cmpI m m2 = 0 := cmpI_eq (limbs_inj (by simpa using hd.out))
          have HC := Lib.hid hcm; clear hcm
          go_wp2_with fail
          go_ret
          exact ⟨by rw [HC.out]; rfl, hE⟩
        · obtain ⟨i, rfl⟩ : ∃ i, j = i + 1 := ⟨j - 1, by omega⟩
          obtain rfl : z = (i : Int) := by omega
          clear hz
          have hx1 := (hE.cell (p := ⟨b, o + i, none⟩) hb1).trans (hc1 i (by omega))
          have hx2 := (hE.cell (p := ⟨b2, o2 + i, none⟩) hb2).trans (hc2 i (by omega))
          have hik : (i : Int) < k := by omega
          have hi1 : i < (limbs m).length := by rw [HL.out]; omega
          have hi2 : i < (limbs m2).length := by rw [HL2.out]; omega
          have key := val_lt_at hs1 hi1 hi2 hd.out
          have key2 := val_lt_at hs2 hi2 hi1 hd.out.symm
          have key3 := drop_eq_step hi1 hi2 hd.out
          rw [val_limbs, val_limbs] at key key2
          generalize (limbs m)[i]?.getD 0 = x at *
          generalize (limbs m2)[i]?.getD 0 = y at *
          clear hc1 hc2 hi1 hi2
          by_cases hxy : x = y
          · subst hxy
            have K3 := Lib.hid (key3 rfl); clear key key2 key3
            go_wp2_with fail
            go_quiet (fail)
            go_wp2_with fail
            go_roundw
            case rel => exact ⟨i, by omega, ⟨_, rfl, rfl⟩, K3, below_drewN hE _⟩
            case measure => simp [intOf]
          · have hne : ((x : Int) != (y : Int)) = true := by simp; omega
            by_cases hlt : x < y
            · have hlt' : decide ((x : Int) < (y : Int)) = true := by simp; omega
              have HC := Lib.hid (cmpI_lt (key hlt)); clear key key2 key3
              go_wp2_with fail
              go_quiet (fail)
              go_wp2_with fail
              go_quiet (fail)
              go_wp2_with fail
              go_ret
              exact ⟨by rw [HC.out]; rfl, below_drewN (below_drewN hE _) _⟩
            · have hlt' : decide ((x : Int) < (y : Int)) = false := by simp; omega
              have HC := Lib.hid (cmpI_gt (key2 (by omega))); clear key key2 key3
              go_wp2_with fail
              go_quiet (fail)
              go_wp2_with fail
              go_quiet (fail)
              go_wp2_with fail
              go_ret
              exact ⟨by rw [HC.out]; rfl, below_drewN (below_drewN hE _) _⟩
    · obtain rfl : k = 0 := by omega
      have hcm : cmpI m m2 = 0 := cmpI_eq (limbs_inj (by rw [List.eq_nil_of_length_eq_zero HL.out, List.eq_nil_of_length_eq_zero HL2.out]))
      have HC := Lib.hid hcm; clear hcm hc hN hN2
      go_wp2_with fail
      go_loop [5] (fun i => i = .int .i64 (-1)) (fun i => 0)
      case atStart => rfl
      case round =>
        subst hrel
        go_wp2_with fail
        go_ret
        exact ⟨by rw [HC.out]; rfl, Ext.refl _⟩
  · have hk' : (((k : Nat) : Int) == (k2 : Int)) = false := by simp; omega
    have hkn : (((k : Nat) : Int) != (k2 : Int)) = true := by simp; omega
    have hlt : k < k2 → m < m2 := fun h => lt_of_nl_lt (by unfold nl; omega)
    have hgt : k2 < k → m2 < m := fun h => lt_of_nl_lt (by unfold nl; omega)
    by_cases hl : k < k2
    · have HC := Lib.hid (cmpI_lt (hlt hl))
      go_wp2_with fail
      go_ret
      exact ⟨by rw [HC.out]; rfl, Ext.refl _⟩
    · have HC := Lib.hid (cmpI_gt (hgt (by omega)))
      go_wp2_with fail
      go_ret
      exact ⟨by rw [HC.out]; rfl, Ext.refl _⟩

theorem cmp_any (B : Nat) (w : World) (a a2 : Option Addr) (n c n2 c2 : Nat) (l l2 : Nt) (h : NatS B w a n c l) (h2 : NatS B w a2 n2 c2 l2) :
    Calls Tryz.prog 140 #[.slice a n c, .slice a2 n2 c2] w fun e w' => e = .returned (.int .i64 (cmpI (val l) (val l2))) ∧ Ext w w' :=
  cmp_aux B w a a2 n c n2 c2 l l2 h h2 _ _ (Lib.hid rfl) (Lib.hid rfl)
end Go.Proofs.YtbhenelehhiakaaGreat
