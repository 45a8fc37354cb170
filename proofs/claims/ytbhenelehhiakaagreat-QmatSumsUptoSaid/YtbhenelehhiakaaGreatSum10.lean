/-
  The references' natural numbers, part 1: Norm, Of, limb, Zero, Same, Cmp.
-/
import Derived.BigQuiet
import Derived.Deep.QuietTactic
import Derived.Deep.RegionHeld3
import Derived.Test.YtbhenelehhiakaaGreatSum8
import Derived.Test.YtbhenelehhiakaaGreatSum9
set_option linter.unusedVariables false
set_option linter.unusedSimpArgs false
namespace Go.Proofs.YtbhenelehhiakaaGreat
open Go.RowKit

theorem get_digit {l : List Nat} (hl : Small l) (i : Nat) : l[i]?.getD 0 = val l / 4294967296 ^ i % 4294967296 := by
  have h := val_div_step hl i
  have := hl.get i
  omega
theorem digit_above (x : Nat) {i : Nat} (h : nl x ≤ i) : x / 4294967296 ^ i = 0 :=
  Nat.div_eq_of_lt (Nat.lt_of_lt_of_le (lt_pow_nl x) (Nat.pow_le_pow_right (by decide) h))
theorem take_nl {l : List Nat} (hl : Small l) : l.take (nl (val l)) = limbs (val l) := by
  have hle := nl_val hl
  apply List.ext_getElem (by rw [List.length_take, length_limbs]; omega)
  intro i h1 h2
  rw [List.getElem_take]
  have e1 := get_digit hl i
  have e2 := get_digit (small_limbs (val l)) i
  rw [val_limbs, ← e1] at e2
  rw [List.getElem?_eq_getElem h2, List.getElem?_eq_getElem (by rw [List.length_take] at h1; omega)] at e2
  exact e2.symm
theorem zero_above {l : List Nat} (hl : Small l) {i : Nat} (h : nl (val l) ≤ i) : l[i]?.getD 0 = 0 := by
  rw [get_digit hl, digit_above _ h]
theorem top_ne {l : List Nat} (hl : Small l) (h : 0 < nl (val l)) : l[nl (val l) - 1]?.getD 0 ≠ 0 := by
  have hx : 0 < val l := by
    rcases Nat.eq_zero_or_pos (val l) with h0 | h0
    · rw [h0] at h; simp [nl_zero] at h
    · exact h0
  have h1 := pow_nl_le hx
  have h2 := lt_pow_nl (val l)
  rw [get_digit hl]
  have h3 : 1 ≤ val l / 4294967296 ^ (nl (val l) - 1) := (Nat.le_div_iff_mul_le (Nat.pow_pos (by decide))).2 (by rw [Nat.one_mul]; exact h1)
  have h4 : val l / 4294967296 ^ (nl (val l) - 1) < 4294967296 := by
    refine Nat.div_lt_of_lt_mul ?_
    rw [Nat.mul_comm, Nat.mul_comm, ← Nat.pow_succ, show (nl (val l) - 1).succ = nl (val l) by omega]
    exact h2
  omega

/-- the cells of a list of limbs, where there are any -/
theorem NatS.at' {B : Nat} {w : World} {a : Option Addr} {n c : Nat} {l : Nt} (h : NatS B w a n c l) {k : Nat} (hk : k < n) : ∃ b o, a = some ⟨b, o, none⟩ ∧ b < w.heap.size ∧ w.cell? ⟨b, o + k, none⟩ = some (.int .u32 ((l[k]?.getD 0 : Nat) : Int)) := by
  obtain ⟨b, o, h1, _, h3, h4, _⟩ := h.pos (by omega)
  exact ⟨b, o, h1, h3, h4 k hk⟩
theorem NatS.none' {B : Nat} {w : World} {a : Option Addr} {n c : Nat} {l : Nt} (h : NatS B w a n c l) {k : Nat} (hk : ¬ k < n) : l[k]?.getD 0 = 0 := by
  rw [List.getElem?_eq_none (by rw [h.len]; omega)]; rfl

set_option maxRecDepth 100000 in
set_option maxHeartbeats 1000000 in
theorem r1Norm_any (B : Nat) (w : World) (a : Option Addr) (n c : Nat) (l : Nt) (h : NatS B w a n c l) (hn : n ≤ 17592186044416) :
    Calls Tryz.prog 139 #[.slice a n c] w (RNat w (val l)) := by
  have hsm := Lib.hid h.small
  have hNS := Lib.hid h
  have hmn : nl (val l) ≤ n := by have := nl_val h.small; rw [h.len] at this; exact this
  have hT := Lib.hid (take_nl h.small)
  have hZ := Lib.hid (fun i => zero_above (l := l) h.small (i := i))
  have hP := Lib.hid (top_ne h.small)
  clear h
  generalize hm : nl (val l) = m at *
  have HM := Lib.hid hm
  clear hm
  have hmk := fun w => make_words under_nat info_u32 m m (Nat.le_refl _) (by omega) w
  go_enter Tryz.func139, Tryz.ntmps139
  go_wp2_with fail
  go_loopw [3] (fun s wr => ∃ k : Nat, m ≤ k ∧ k ≤ n ∧ s = .int .i64 (k : Int) ∧ Hid (Ext w wr)) (fun s _ => (intOf s).toNat)
  case atStart => exact ⟨n, hmn, Nat.le_refl _, rfl, Lib.hid (Ext.refl _)⟩
  case round =>
    obtain ⟨k, hk1, hk2, rfl, HE⟩ := hrel
    by_cases hkm : m < k
    · obtain ⟨j, rfl⟩ : ∃ j, k = j + 1 := ⟨k - 1, by omega⟩
      obtain ⟨b, o, rfl, hb, hc⟩ := hNS.out.at' (k := j) (by omega)
      have hc := (HE.out.cell (p := ⟨b, o + j, none⟩) hb).trans hc
      rw [hZ.out j (by omega)] at hc
      have hpos : 0 < (j : Int) + 1 := by omega
      go_wp2_with fail
      go_roundw
      case rel => exact ⟨j, by omega, by omega, rfl, HE⟩
      case measure => simp [intOf]
    · obtain rfl : k = m := by omega
      have HT : Hid (∀ i : Nat, i < k → ∃ b o, a = some ⟨b, o, none⟩ ∧ wr.cell? ⟨b, o + i, none⟩ = some (.int .u32 ((l[i]?.getD 0 : Nat) : Int)) ∧ b < w.heap.size) := Lib.hid (fun i hi => by
        obtain ⟨b, o, rfl, hb, hc⟩ := hNS.out.at' (k := i) (by omega)
        exact ⟨b, o, rfl, (HE.out.cell (p := ⟨b, o + i, none⟩) hb).trans hc, hb⟩)
      have hlen := Lib.hid hNS.out.len
      have HEs := HE.out.size
      have hmk0 : ∀ w, (Instr.makeSlice 23 (.int .i64 0) (.int .i64 0)).run Tryz.prog w = .ok (.slice (some ⟨w.heap.size, 0, none⟩) 0 0) (w.alloc (.cells (words (List.replicate 0 0)) 126)) := fun w => make_words under_nat info_u32 0 0 (Nat.le_refl _) (by omega) w
      obtain ⟨wo, rfl⟩ : ∃ wo : World, wo = wr := ⟨_, rfl⟩
      rcases Nat.eq_zero_or_pos k with h0 | h0
      · subst h0
        go_wp2_with fail
        go_loopw [5] (fun s wx => s = .int .i64 0 ∧ Hid (Ext w wx)) (fun _ _ => 0)
        case atStart => exact ⟨rfl, Lib.hid (Ext.trans HE.out ((Below.refl _ _).alloc (Nat.le_refl _) _))⟩
        case round =>
          obtain ⟨rfl, HE2⟩ := hrel
          go_wp2_with fail
          go_ret
          refine ⟨_, 0, 0, rfl, ?_, HE2.out⟩
          rw [← hT.out]
          exact ⟨rfl, Nat.le_refl _, by omega, fun e => rfl, fun i hi => absurd hi (by simp)⟩
      · obtain ⟨j, rfl⟩ : ∃ j, k = j + 1 := ⟨k - 1, by omega⟩
        obtain ⟨b, o, rfl, hc, hb⟩ := HT.out j (by omega)
        have hne := hP.out (by omega)
        have hne' : (((l[j]?.getD 0 : Nat) : Int) == 0) = false := by simpa using hne
        have hcl := HT.out
        have hpos : 0 < (j : Int) + 1 := by omega
        clear HT hne hP
        have HCL := Lib.hid hcl
        clear hcl
        have e1 : ((j + 1 : Nat) : Int) = (j : Int) + 1 := by omega
        rw [e1] at hmk
        clear e1
        go_wp2_with fail
        go_loopw [5] (fun s wx => ∃ i : Nat, i ≤ j + 1 ∧ s = .int .i64 (i : Int) ∧ Hid (Blk wx wo.heap.size 126 (words (l.take i ++ List.replicate (j + 1 - i) 0))) ∧ Hid (Ext wo wx)) (fun s _ => j + 1 - (intOf s).toNat)
        case atStart => exact ⟨0, by omega, rfl, Lib.hid (Blk.new _ _ _), Lib.hid ((Below.refl _ _).alloc (Nat.le_refl _) _)⟩
        case round =>
          obtain ⟨i, hi, rfl, hB, hE2⟩ := hrel
          by_cases hij : i < j + 1
          · obtain ⟨b', o', hba, hci, _⟩ := HCL.out i hij
            cases hba
            have hci := (hE2.out.cell (p := ⟨b, o + i, none⟩) (by show b < wo.heap.size; omega)).trans hci
            have hlt : i < l.length := by rw [hlen.out]; omega
            have hfill : (l.take i ++ List.replicate (j + 1 - i) 0).set i (l[i]?.getD 0) = l.take (i + 1) ++ List.replicate (j + 1 - (i + 1)) 0 := by
              rw [take_succ_get hlt, List.set_append_right _ _ (by rw [List.length_take]; omega), List.length_take, Nat.min_eq_left (by omega), Nat.sub_self, show j + 1 - i = (j + 1 - (i + 1)) + 1 by omega, List.replicate_succ, List.set_cons_zero, List.append_assoc]
              rfl
            have HF := Lib.hid hfill
            have hlL : (l.take i ++ List.replicate (j + 1 - i) 0).length = j + 1 := by rw [List.length_append, List.length_take, List.length_replicate]; omega
            have hco := hB.out.word (i := i) (by rw [hlL]; exact hij)
            have hfr := hB.out.free i
            have hwl := hB.out.lt
            have hlt2 : (i : Int) < (j : Int) + 1 := by omega
            clear hfill hlL hlt
            go_wp2_with fail
            go_roundw
            case rel =>
              refine ⟨i + 1, by omega, by go_num, Lib.hid ?_, Lib.hid (hE2.out.setCell (Nat.le_refl _) _)⟩
              have := hB.out.set i (.int .u32 ((l[i]?.getD 0 : Nat) : Int))
              rw [words_set, HF.out] at this
              exact this
            case measure => simp [intOf]; omega
          · obtain rfl : i = j + 1 := by omega
            have hNR : NatS wo.heap.size wr (some ⟨wo.heap.size, 0, none⟩) (j + 1) (j + 1) (l.take (j + 1)) := by
              have := hB.out.nat (B := wo.heap.size) (Nat.le_refl _) ((hsm.out.take _).append (small_replicate _)) (j + 1) (by rw [List.length_append, List.length_take, hlen.out]; omega) (Nat.le_refl _) (by omega)
              rwa [Nat.sub_self, List.replicate_zero, List.append_nil, List.take_take, Nat.min_self] at this
            rw [hT.out] at hNR
            have HN := Lib.hid hNR
            clear hNR
            go_wp2_with fail
            go_ret
            exact ⟨_, _, _, rfl, HN.out.mono HEs (Kept.refl _ _), Ext.trans HE.out hE2.out⟩
end Go.Proofs.YtbhenelehhiakaaGreat
/-
  The references' natural numbers, part 2: Of, limb, Zero, Same, Cmp.
-/
namespace Go.Proofs.YtbhenelehhiakaaGreat
open Go.RowKit

set_option maxHeartbeats 400000 in
theorem r1Of_any (x : Nat) (w : World) (hx : x < 18446744073709551616) :
    Calls Tryz.prog 116 #[.int .u64 (x : Int)] w (RNat w x) := by
  go_enter Tryz.func116, Tryz.ntmps116
  go_wp2_with fail
  refine (r1Norm_any w.heap.size _ (some ⟨w.heap.size, 0, none⟩) 2 2 [x % 4294967296, x / 4294967296] (Blk.nat (l := [x % 4294967296, x / 4294967296]) (Blk.new w 126 (words [x % 4294967296, x / 4294967296])) (Nat.le_refl _) (small_cons (by omega) (small_cons (by omega) small_nil)) 2 (Nat.le_refl _) (Nat.le_refl _) (by omega)) (by omega)).mono ?_
  rintro e w1 ⟨a1, n1, c1, rfl, h1, hE⟩
  have hv : val [x % 4294967296, x / 4294967296] = x := by simp [val]; omega
  rw [hv] at h1
  have hE1 : Ext w w1 := (((Below.refl _ w).alloc (Nat.le_refl _) _)).trans (hE.mono (by simp))
  clear hE hv
  go_wp2_with fail
  go_ret
  exact ⟨a1, n1, c1, rfl, h1.mono (by simp) (Kept.refl _ _), hE1⟩

set_option maxHeartbeats 400000 in
theorem limb_any (B : Nat) (w : World) (a : Option Addr) (n c : Nat) (l : Nt) (h : NatS B w a n c l) (i : Nat) (hi : i ≤ 9223372036854775807) :
    Calls Tryz.prog 162 #[.slice a n c, .int .i64 (i : Int)] w fun e w' => e = .returned (.int .u64 ((l[i]?.getD 0 : Nat) : Int)) ∧ w = w' := by
  have hcap := h.cap
  have hmost := h.most
  have h0 : decide ((i : Int) < 0) = false := decide_eq_false (by omega)
  by_cases hin : i < n
  · obtain ⟨b, o, rfl, hb, hc⟩ := h.at' hin
    have h1 : decide (n ≤ i) = false := decide_eq_false (by omega)
    have h2 : (i : Int) < (n : Int) := by omega
    have hx := h.small.get i
    generalize l[i]?.getD 0 = x at *
    clear h
    go_enter Tryz.func162, Tryz.ntmps162
    go_wp2_with fail
    go_ret
    exact ⟨rfl, rfl⟩
  · have h1 : decide (n ≤ i) = true := decide_eq_true (by omega)
    have hz := h.none' hin
    have HZ := Lib.hid hz
    clear h hz
    go_enter Tryz.func162, Tryz.ntmps162
    go_wp2_with fail
    go_ret
    exact ⟨by rw [HZ.out]; rfl, rfl⟩

theorem val_zero_iff {l : List Nat} (hl : Small l) : val l = 0 ↔ ∀ i : Nat, l[i]?.getD 0 = 0 := by
  constructor
  · intro h i
    rw [get_digit hl, h, Nat.zero_div]
  · intro h
    refine val_eq_zero fun x hx => ?_
    obtain ⟨i, hi, rfl⟩ := List.getElem_of_mem hx
    have := h i
    rwa [List.getElem?_eq_getElem hi] at this

set_option maxHeartbeats 400000 in
theorem r1Zero_any (B : Nat) (w : World) (a : Option Addr) (n c : Nat) (l : Nt) (h : NatS B w a n c l) :
    Calls Tryz.prog 103 #[.slice a n c] w fun e w' => e = .returned (.bool (decide (val l = 0))) ∧ w = w' := by
  have hcap := h.cap
  have hmost := h.most
  obtain ⟨r, hr⟩ : ∃ r, r = decide (val l = 0) := ⟨_, rfl⟩
  rw [← hr]
  have HR := Lib.hid hr
  have HV := Lib.hid (val_zero_iff (l := l) h.small)
  have HN := Lib.hid h
  clear hr h
  go_enter Tryz.func103, Tryz.ntmps103
  go_wp2_with fail
  go_loop [7] (fun s => ∃ i : Nat, i ≤ n ∧ s = .int .i64 (i : Int) ∧ Hid (∀ j, j < i → l[j]?.getD 0 = 0)) (fun s => n - (intOf s).toNat)
  case atStart => exact ⟨0, Nat.zero_le _, rfl, Lib.hid (fun j hj => by omega)⟩
  case round =>
    obtain ⟨i, hi, rfl, hz⟩ := hrel
    by_cases hin : i < n
    · obtain ⟨b, o, rfl, hb, hc⟩ := HN.out.at' hin
      by_cases hx : l[i]?.getD 0 = 0
      · rw [hx] at hc
        have HX := Lib.hid hx
        clear hx
        go_wp2_with fail
        go_round
        case rel => exact ⟨i + 1, by omega, by go_num, Lib.hid (fun j hj => by
          by_cases hji : j < i
          · exact hz.out j hji
          · obtain rfl : j = i := by omega
            exact HX.out)⟩
        case measure => simp [intOf]; omega
      · have hne : (((l[i]?.getD 0 : Nat) : Int) != 0) = true := by simpa using hx
        have HX := Lib.hid hx
        clear hx
        go_wp2_with fail
        go_ret
        exact ⟨by rw [HR.out, decide_eq_false (fun h => HX.out (HV.out.1 h i))]; rfl, rfl⟩
    · obtain rfl : i = n := by omega
      go_wp2_with fail
      go_ret
      exact ⟨by rw [HR.out, decide_eq_true (HV.out.2 (fun j => by
        by_cases hji : j < i
        · exact hz.out j hji
        · exact HN.out.none' hji))]; rfl, rfl⟩

set_option maxHeartbeats 400000 in
theorem r1Same_any (B : Nat) (w : World) (a a2 : Option Addr) (n c n2 c2 : Nat) (l l2 : Nt) (h : NatS B w a n c l) (h2 : NatS B w a2 n2 c2 l2) :
    Calls Tryz.prog 105 #[.slice a n c, .slice a2 n2 c2] w fun e w' => e = .returned (.bool (decide (l = l2))) ∧ Ext w w' := by
  have hcap := h.cap
  have hmost := h.most
  obtain ⟨r, hr⟩ : ∃ r, r = decide (l = l2) := ⟨_, rfl⟩
  rw [← hr]
  have HR := Lib.hid hr
  have HN := Lib.hid h
  have HN2 := Lib.hid h2
  clear hr h h2
  by_cases hnn : n = n2
  · subst hnn
    go_enter Tryz.func105, Tryz.ntmps105
    go_wp2_with fail
    go_loopw [13] (fun s wr => ∃ i : Nat, i ≤ n ∧ s = .int .i64 (i : Int) ∧ Hid (∀ j, j < i → l[j]?.getD 0 = l2[j]?.getD 0) ∧ Hid (Ext w wr)) (fun s _ => n - (intOf s).toNat)
    case atStart => exact ⟨0, Nat.zero_le _, rfl, Lib.hid (fun j hj => by omega), Lib.hid (Ext.refl _)⟩
    case round =>
      obtain ⟨i, hi, rfl, hz, HE⟩ := hrel
      by_cases hin : i < n
      · obtain ⟨b, o, rfl, hb, hc⟩ := HN.out.at' hin
        obtain ⟨b2, o2, rfl, hb2, hc2⟩ := HN2.out.at' hin
        have hc := (HE.out.cell (p := ⟨b, o + i, none⟩) hb).trans hc
        have hc2 := (HE.out.cell (p := ⟨b2, o2 + i, none⟩) hb2).trans hc2
        have hik : (i : Int) < n := by omega
        have HX : Hid (l[i]?.getD 0 = l[i]?.getD 0) := Lib.hid rfl
        have HY : Hid (l2[i]?.getD 0 = l2[i]?.getD 0) := Lib.hid rfl
        generalize hx : l[i]?.getD 0 = x at hc HX
        generalize hy : l2[i]?.getD 0 = y at hc2 HY
        have hxh := Lib.hid hx
        have hyh := Lib.hid hy
        clear hx hy HX HY
        by_cases hxy : x = y
        · subst hxy
          go_wp2_with fail
          go_quiet (fail)
          go_wp2_with fail
          go_roundw
          case rel => exact ⟨i + 1, by omega, by go_num, Lib.hid (fun j hj => by
            by_cases hji : j < i
            · exact hz.out j hji
            · obtain rfl : j = i := by omega
              rw [hxh.out, hyh.out]), Lib.hid (below_drewN HE.out _)⟩
          case measure => simp [intOf]; omega
        · have hne : ((x : Int) != (y : Int)) = true := by simp; omega
          have HXY := Lib.hid hxy
          clear hxy
          go_wp2_with fail
          go_quiet (fail)
          go_wp2_with fail
          go_ret
          exact ⟨by rw [HR.out, decide_eq_false (fun h => HXY.out (by rw [← hxh.out, ← hyh.out, h]))]; rfl, below_drewN HE.out _⟩
      · obtain rfl : i = n := by omega
        go_wp2_with fail
        go_ret
        have hll : l = l2 := by
          refine List.ext_getElem (HN.out.len.trans HN2.out.len.symm) fun j h1 h2 => ?_
          have := hz.out j (Nat.lt_of_lt_of_eq h1 HN.out.len)
          rwa [List.getElem?_eq_getElem h1, List.getElem?_eq_getElem h2] at this
        exact ⟨by rw [HR.out, decide_eq_true hll]; rfl, HE.out⟩
  · have hne : ((n : Int) != (n2 : Int)) = true := by simp; omega
    have HNN := Lib.hid hnn
    clear hnn
    go_enter Tryz.func105, Tryz.ntmps105
    go_wp2_with fail
    go_ret
    exact ⟨by rw [HR.out, decide_eq_false (fun h => HNN.out (by rw [← HN.out.len, ← HN2.out.len, h]))]; rfl, Ext.refl _⟩

set_option maxHeartbeats 400000 in
theorem r1Cmp_any (B : Nat) (w : World) (a a2 : Option Addr) (n c n2 c2 : Nat) (l l2 : Nt) (h : NatS B w a n c l) (h2 : NatS B w a2 n2 c2 l2) (m m2 : Nat) (hm : Hid (val l = m)) (hm2 : Hid (val l2 = m2)) :
    Calls Tryz.prog 150 #[.slice a n c, .slice a2 n2 c2] w fun e w' => e = .returned (.int .i64 (cmpI m m2)) ∧ w = w' := by
  have hcap := h.cap
  have hmost := h.most
  have hcap2 := h2.cap
  have hmost2 := h2.most
  have HN := Lib.hid h
  have HN2 := Lib.hid h2
  have hn := Lib.hid h.len
  have hn2 := Lib.hid h2.len
  have hs1 := h.small
  have hs2 := h2.small
  clear h h2
  rcases (by omega : n2 ≤ n ∨ n < n2) with hc | hc
  · have hcb : decide (n < n2) = false := decide_eq_false (by omega)
    have HMX : Hid (max n n2 = n) := Lib.hid (by omega)
    have hmx : max n n2 ≤ 9223372036854775807 := by omega
    go_enter Tryz.func150, Tryz.ntmps150
    go_wp2_with fail
    go_loopg [6] (max n n2) (fun q s wr => ∃ j : Nat, j ≤ max n n2 ∧ q = j ∧ (∃ z : Int, s = .int .i64 z ∧ z = (j : Int) - 1) ∧ Hid (val l / 4294967296 ^ j = val l2 / 4294967296 ^ j) ∧ w = wr)
    case atStart => exact ⟨n, by rw [HMX.out]; exact Nat.le_refl _, HMX.out, ⟨_, rfl, rfl⟩, Lib.hid (by rw [val_div_len hs1 (by rw [hn.out]; omega), val_div_len hs2 (by rw [hn2.out]; omega)]), rfl⟩
    case round =>
      obtain ⟨j, hj, hq, ⟨z, rfl, hz⟩, hd, rfl⟩ := hrel
      by_cases h0 : j = 0
      · subst h0
        obtain rfl : z = -1 := by omega
        clear hz
        have hcm : cmpI m m2 = 0 := cmpI_eq (by have := hd.out; rw [Nat.pow_zero, Nat.div_one, Nat.div_one, hm.out, hm2.out] at this; exact this)
        have HC := Lib.hid hcm
        clear hcm
        go_wp2_with fail
        go_ret
        exact ⟨by rw [HC.out]; rfl, rfl⟩
      · obtain ⟨i, rfl⟩ : ∃ i, j = i + 1 := ⟨j - 1, by omega⟩
        obtain rfl : z = (i : Int) := by omega
        clear hz
        have K1 := Lib.hid (limb_any B w a n c l HN.out i (by omega))
        have K2 := Lib.hid (limb_any B w a2 n2 c2 l2 HN2.out i (by omega))
        have q1 := cmp_step_lt hs1 hs2 hd.out
        have q2 := cmp_step_lt hs2 hs1 hd.out.symm
        have q3 := cmp_step_eq hs1 hs2 hd.out
        rw [hm.out, hm2.out] at q1
        rw [hm.out, hm2.out] at q2
        have hx := hs1.get i
        have hy := hs2.get i
        generalize l[i]?.getD 0 = x at *
        generalize l2[i]?.getD 0 = y at *
        by_cases hxy : x = y
        · subst hxy
          have K3 := Lib.hid (q3 rfl)
          clear q1 q2 q3
          have hlt : decide (x < x) = false := decide_eq_false (by omega)
          go_wp2_with (go_at_call 162; first | ((with_reducible refine K1.out.mono ?_); rintro e w' ⟨rfl, rfl⟩) | ((with_reducible refine K2.out.mono ?_); rintro e w' ⟨rfl, rfl⟩))
          go_roundg i
          case rel => exact ⟨i, by omega, rfl, ⟨_, rfl, rfl⟩, K3, rfl⟩
          case measure => omega
        · by_cases hlt : x < y
          · have HC := Lib.hid (cmpI_lt (q1 hlt))
            have hl : decide (x < y) = true := decide_eq_true hlt
            clear q1 q2 q3 hxy
            go_wp2_with (go_at_call 162; first | ((with_reducible refine K1.out.mono ?_); rintro e w' ⟨rfl, rfl⟩) | ((with_reducible refine K2.out.mono ?_); rintro e w' ⟨rfl, rfl⟩))
            go_ret
            exact ⟨by rw [HC.out]; rfl, rfl⟩
          · have hgt : y < x := by omega
            have HC := Lib.hid (cmpI_gt (q2 hgt))
            have hl : decide (x < y) = false := decide_eq_false hlt
            have hl2 : decide (y < x) = true := decide_eq_true hgt
            clear q1 q2 q3 hxy
            go_wp2_with (go_at_call 162; first | ((with_reducible refine K1.out.mono ?_); rintro e w' ⟨rfl, rfl⟩) | ((with_reducible refine K2.out.mono ?_); rintro e w' ⟨rfl, rfl⟩))
            go_ret
            exact ⟨by rw [HC.out]; rfl, rfl⟩
  · have hcb : decide (n < n2) = true := decide_eq_true hc
    have HMX : Hid (max n n2 = n2) := Lib.hid (by omega)
    have hmx : max n n2 ≤ 9223372036854775807 := by omega
    go_enter Tryz.func150, Tryz.ntmps150
    go_wp2_with fail
    go_loopg [6] (max n n2) (fun q s wr => ∃ j : Nat, j ≤ max n n2 ∧ q = j ∧ (∃ z : Int, s = .int .i64 z ∧ z = (j : Int) - 1) ∧ Hid (val l / 4294967296 ^ j = val l2 / 4294967296 ^ j) ∧ w = wr)
    case atStart => exact ⟨n2, by rw [HMX.out]; exact Nat.le_refl _, HMX.out, ⟨_, rfl, rfl⟩, Lib.hid (by rw [val_div_len hs1 (by rw [hn.out]; omega), val_div_len hs2 (by rw [hn2.out]; omega)]), rfl⟩
    case round =>
      obtain ⟨j, hj, hq, ⟨z, rfl, hz⟩, hd, rfl⟩ := hrel
      by_cases h0 : j = 0
      · subst h0
        obtain rfl : z = -1 := by omega
        clear hz
        have hcm : cmpI m m2 = 0 := cmpI_eq (by have := hd.out; rw [Nat.pow_zero, Nat.div_one, Nat.div_one, hm.out, hm2.out] at this; exact this)
        have HC := Lib.hid hcm
        clear hcm
        go_wp2_with fail
        go_ret
        exact ⟨by rw [HC.out]; rfl, rfl⟩
      · obtain ⟨i, rfl⟩ : ∃ i, j = i + 1 := ⟨j - 1, by omega⟩
        obtain rfl : z = (i : Int) := by omega
        clear hz
        have K1 := Lib.hid (limb_any B w a n c l HN.out i (by omega))
        have K2 := Lib.hid (limb_any B w a2 n2 c2 l2 HN2.out i (by omega))
        have q1 := cmp_step_lt hs1 hs2 hd.out
        have q2 := cmp_step_lt hs2 hs1 hd.out.symm
        have q3 := cmp_step_eq hs1 hs2 hd.out
        rw [hm.out, hm2.out] at q1
        rw [hm.out, hm2.out] at q2
        have hx := hs1.get i
        have hy := hs2.get i
        generalize l[i]?.getD 0 = x at *
        generalize l2[i]?.getD 0 = y at *
        by_cases hxy : x = y
        · subst hxy
          have K3 := Lib.hid (q3 rfl)
          clear q1 q2 q3
          have hlt : decide (x < x) = false := decide_eq_false (by omega)
          go_wp2_with (go_at_call 162; first | ((with_reducible refine K1.out.mono ?_); rintro e w' ⟨rfl, rfl⟩) | ((with_reducible refine K2.out.mono ?_); rintro e w' ⟨rfl, rfl⟩))
          go_roundg i
          case rel => exact ⟨i, by omega, rfl, ⟨_, rfl, rfl⟩, K3, rfl⟩
          case measure => omega
        · by_cases hlt : x < y
          · have HC := Lib.hid (cmpI_lt (q1 hlt))
            have hl : decide (x < y) = true := decide_eq_true hlt
            clear q1 q2 q3 hxy
            go_wp2_with (go_at_call 162; first | ((with_reducible refine K1.out.mono ?_); rintro e w' ⟨rfl, rfl⟩) | ((with_reducible refine K2.out.mono ?_); rintro e w' ⟨rfl, rfl⟩))
            go_ret
            exact ⟨by rw [HC.out]; rfl, rfl⟩
          · have hgt : y < x := by omega
            have HC := Lib.hid (cmpI_gt (q2 hgt))
            have hl : decide (x < y) = false := decide_eq_false hlt
            have hl2 : decide (y < x) = true := decide_eq_true hgt
            clear q1 q2 q3 hxy
            go_wp2_with (go_at_call 162; first | ((with_reducible refine K1.out.mono ?_); rintro e w' ⟨rfl, rfl⟩) | ((with_reducible refine K2.out.mono ?_); rintro e w' ⟨rfl, rfl⟩))
            go_ret
            exact ⟨by rw [HC.out]; rfl, rfl⟩
end Go.Proofs.YtbhenelehhiakaaGreat
