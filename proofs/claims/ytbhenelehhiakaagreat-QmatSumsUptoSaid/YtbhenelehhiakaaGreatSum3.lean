/-
  A part.
-/
import Derived.Test.YtbhenelehhiakaaGreatProg
import Derived.Outline
import Derived.Laws.CopyOwn
import Derived.Test.YtbhenelehhiakaaGreatSum2
set_option linter.unusedVariables false
set_option linter.unusedSimpArgs false
namespace Go.Proofs.YtbhenelehhiakaaGreat
open Go.RowKit

theorem trim_val {l : List Nat} {k : Nat} (hk : k < l.length) (h0 : l[k]?.getD 0 = 0) : val (l.take (k + 1)) = val (l.take k) := by
  rw [val_take_succ hk, h0, Nat.mul_zero, Nat.add_zero]

set_option maxHeartbeats 400000 in
theorem trim_pos (B : Nat) (w : World) (b o n c : Nat) (l : Nt) (h : NatS B w (some ⟨b, o, none⟩) n c l) (hn : 0 < n) :
    Calls Tryz.prog 138 #[.slice (some ⟨b, o, none⟩) n c] w fun e w' => ∃ k, e = .returned (.slice (some ⟨b, o, none⟩) k c) ∧ (k ≤ n ∧ l.take k = limbs (val l)) ∧ w = w' := by
  obtain ⟨b', o', ha, hB, hb, hc, hf⟩ := h.pos hn
  cases ha
  have hlen := h.len
  have hcap := h.cap
  have hmost := h.most
  have hsm := h.small
  have hc0 : ¬ c = 0 := by omega
  have HL := Lib.hid hlen; clear hlen h
  go_enter Tryz.func138, Tryz.ntmps138
  go_wp2
  go_loop [0] (fun s => ∃ k : Nat, k ≤ n ∧ s = .slice (some ⟨b, o, none⟩) k c ∧ Hid (val (l.take k) = val l)) (fun s => lenOf s)
  case atStart => exact ⟨n, Nat.le_refl _, rfl, by rw [List.take_of_length_le (by rw [HL.out]; omega)]; exact Lib.hid rfl⟩
  case round =>
    obtain ⟨k, hk, rfl, hv⟩ := hrel
    by_cases h0 : k = 0
    · subst h0
      have hz : l.take 0 = limbs (val l) := by rw [← hv.out]; rfl
      have HZ := Lib.hid hz; clear hz
      go_wp2
      go_ret
      exact ⟨0, rfl, ⟨Nat.zero_le _, HZ.out⟩, rfl⟩
    · obtain ⟨j, rfl⟩ : ∃ j, k = j + 1 := ⟨k - 1, by omega⟩
      have hcj := hc j (by omega)
      by_cases hz : l[j]?.getD 0 = 0
      · have hv2 := trim_val (by rw [HL.out]; omega) hz
        rw [hv.out] at hv2
        have HV := Lib.hid hv2.symm; clear hv2
        rw [hz] at hcj
        go_wp2
        go_round
        case rel => exact ⟨j, by omega, rfl, HV⟩
        case measure => simp [lenOf]
      · have hz' : (((l[j]?.getD 0 : Nat) : Int) == 0) = false := by simpa using hz
        have hz2 : l.take (j + 1) = limbs (val l) := by
          rw [← hv.out]
          have hj : j < l.length := by rw [HL.out]; omega
          refine (limbs_of_val (hsm.take _) (Or.inr ?_)).symm
          rw [List.length_take, Nat.min_eq_left (by omega), Nat.add_sub_cancel, List.getElem?_take_of_lt (by omega)]
          exact hz
        have HZ := Lib.hid hz2; clear hz2 hz
        go_wp2
        go_ret
        exact ⟨j + 1, rfl, ⟨hk, HZ.out⟩, rfl⟩

theorem trim_all (B : Nat) (w : World) (a : Option Addr) (n c : Nat) (l : Nt) (h : NatS B w a n c l) :
    Calls Tryz.prog 138 #[.slice a n c] w fun e w' => ∃ k, e = .returned (.slice a k c) ∧ (k ≤ n ∧ ∀ B' w'', NatS B' w'' a n c l → NatS B' w'' a k c (limbs (val l))) ∧ w = w' := by
  by_cases hn : 0 < n
  · obtain ⟨b, o, rfl, _⟩ := h.pos hn
    refine (trim_pos B w b o n c l h hn).mono ?_
    rintro e w' ⟨k, rfl, ⟨hk, ht⟩, rfl⟩
    exact ⟨k, rfl, ⟨hk, fun B' w'' h' => by rw [← ht]; exact h'.take hk⟩, rfl⟩
  · obtain rfl : n = 0 := by omega
    have hl : l = [] := List.eq_nil_of_length_eq_zero h.len
    subst hl
    go_enter Tryz.func138, Tryz.ntmps138
    go_wp2
    go_loop [0] (fun s => s = .slice a 0 c) (fun s => lenOf s)
    case atStart => rfl
    case round =>
      subst hrel
      go_wp2
      go_ret
      exact ⟨0, rfl, ⟨by omega, fun _ _ h' => h'⟩, rfl⟩

theorem trim_any (B : Nat) (w : World) (a : Option Addr) (n c : Nat) (l : Nt) (h : NatS B w a n c l) :
    Calls Tryz.prog 138 #[.slice a n c] w fun e w' => ∃ k, e = .returned (.slice a k c) ∧ NatS B w a k c (limbs (val l)) ∧ w = w' :=
  (trim_all B w a n c l h).mono fun _ _ ⟨k, h1, h2, h3⟩ => ⟨k, h1, h2.2 _ _ h, h3⟩

theorem info_u32 : (Tryz.prog.info? 126).map (fun i => (i.zero, i.size, i.bytes)) = some (some (.int .u32 0), 1, 4) := by kernel_rfl
theorem under_nat : Tryz.prog.underlying 23 = some (.slice 126) := Tryz.underlying23

set_option maxHeartbeats 400000 in
theorem own_any (B : Nat) (w : World) (a : Option Addr) (n c : Nat) (l : Nt) (h : NatS B w a n c l) (hn : n ≤ 17592186044416) :
    Calls Tryz.prog 134 #[.slice a n c] w (RNat w (val l)) := by
  have hsm := h.small
  go_enter Tryz.func134, Tryz.ntmps134
  go_wp2_with fail
  refine (trim_any B w a n c l h).mono ?_
  rintro e w' ⟨k, rfl, hN, rfl⟩
  have hkn : k ≤ n := by have := hN.len; have := nl_val hsm; have := h.len; rw [length_limbs] at *; omega
  by_cases hk : k = 0
  · subst hk
    have hl : limbs (val l) = [] := List.eq_nil_of_length_eq_zero hN.len
    have HL := Lib.hid hl; clear hl
    go_wp2_with fail
    go_ret
    exact ⟨none, 0, 0, rfl, by rw [HL.out]; exact natS_nil _ _, Ext.refl _⟩
  · have hk' : (((k : Nat) : Int) == 0) = false := by simpa using hk
    have hmk := fun w => make_words under_nat info_u32 k k (Nat.le_refl _) (by omega) w
    obtain ⟨b, o, rfl, hBb, hb, hc, hf⟩ := hN.pos (by omega)
    have HL := Lib.hid hN.len
    have hsz := hN.cap
    clear h hN hf
    go_wp2_with (refine wpList_copy_words rfl (.tmp 12) (.tmp 13) 23 126 rfl under_nat (by kernel_rfl) w.heap.size b o k k c (limbs (val l)) rfl rfl (Blk.new _ _ _) HL (fun i hi => (cell_alloc (hc i hi) _)) w.heap.size w ((Below.refl _ _).alloc (Nat.le_refl _) _) (Nat.le_refl _) ?_; intro w1 hb1 hE1)
    go_ret
    exact ⟨some ⟨w.heap.size, 0, none⟩, k, k, rfl, by have := hb1.out.nat (Nat.le_refl _) (small_limbs _) k (by rw [HL.out]; omega) (Nat.le_refl _) (by omega); rwa [List.take_of_length_le (by rw [HL.out]; omega)] at this, hE1⟩
end Go.Proofs.YtbhenelehhiakaaGreat
