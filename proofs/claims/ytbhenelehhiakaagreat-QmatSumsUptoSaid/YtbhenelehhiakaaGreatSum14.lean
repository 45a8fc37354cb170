/-
  The references' natural numbers, part 5: Left, Div.
-/
import Derived.IntWalk
import Derived.Test.YtbhenelehhiakaaGreatSum13
set_option linter.unusedVariables false
set_option linter.unusedSimpArgs false
namespace Go.Proofs.YtbhenelehhiakaaGreat
open Go.RowKit

theorem natS_of_owns' {w : World} {base n : Nat} {E : TypeId} {v : Value} {l : List Nat} (h : w.ownsRow base E 1 v n (l.map fun x : Nat => Value.int .u32 (x : Int))) (hs : Small l) : ∃ a c, v = .slice a n c ∧ NatS base w a n c l := by
  have hl : l.length = n := by simpa using h.1
  rcases Nat.eq_zero_or_pos n with h0 | h0
  · subst h0
    obtain rfl : l = [] := List.eq_nil_of_length_eq_zero hl
    rcases h.2 with ⟨hv, _⟩ | ⟨g, cap, cur, hv, h2, h3, h4, h5, _⟩
    · exact ⟨none, 0, hv, natS_nil _ _⟩
    · exact ⟨_, cap, hv, rfl, Nat.zero_le _, by unfold maxLen at h5; omega, fun e => (by cases e), fun i hi => absurd hi (by simp)⟩
  · obtain ⟨g, c, rfl, _⟩ := owns_form h h0
    exact ⟨_, c, rfl, natS_of_owns h hs⟩

theorem shl_cast {r : Nat} (hr : r < 32) : ((2 : Int) ^ r % 4294967296) = ((2 ^ r : Nat) : Int) := by
  have h5 := pow_s_le hr
  have h7 : ((2 ^ r : Nat) : Int) = (2 : Int) ^ r := by rw [Int.natCast_pow]; rfl
  rw [← h7]
  generalize 2 ^ r = p at *
  omega

set_option maxRecDepth 100000 in
set_option maxHeartbeats 1000000 in
theorem r1Left_any (B : Nat) (w : World) (a : Option Addr) (n c : Nat) (l : Nt) (h : NatS B w a n c l) (hn : n ≤ 1099511627776) (s : Nat) (hs : s ≤ 70368744177664) (m : Nat) (hm : Hid (val l * 2 ^ s = m)) :
    Calls Tryz.prog 158 #[.slice a n c, .int .i64 (s : Int)] w (RNat w m) := by
  obtain ⟨i0, hi, hz0, hz1, hz2⟩ := info_parts info_u32
  have hq : s / 32 ≤ 2199023255552 := by omega
  have hr : s % 32 < 32 := Nat.mod_lt _ (by decide)
  have hs1 : (s : Int) / 32 = ((s / 32 : Nat) : Int) := by omega
  have hs2 : (s : Int) % 32 = ((s % 32 : Nat) : Int) := by omega
  have HQ : Hid (4294967296 ^ (s / 32) * 2 ^ (s % 32) = 2 ^ s) := Lib.hid (by
    have : (4294967296 : Nat) = 2 ^ 32 := by decide
    rw [this, ← Nat.pow_mul, ← Nat.pow_add, Nat.div_add_mod])
  generalize s / 32 = q at *
  generalize s % 32 = r at *
  have hmk := fun w => make_words under_nat info_u32 q q (Nat.le_refl _) (by omega) w
  have hwr : IntKind.i64.wrap (q : Int) = (q : Int) := IntWalk.i64_in _ (by omega)
  have HN := Lib.hid h
  clear h
  go_enter Tryz.func158, Tryz.ntmps158
  go_wp2_with fail
  have hE0 := ((Below.refl _ _).drew : Ext w w.drew)
  go_region_held3 (fun _ => True) (trivial)
    (first | (go_at_call 139; refine (r1Norm_any B _ _ _ _ _ (HN.out.ext (Nat.le_refl _) (by first | exact hE0 | exact (Below.alloc hE0 hE0.size _))) (by omega)).mono ?_; rintro e w1 ⟨a1, n1, c1, rfl, h1, hE1⟩; have hn1 : n1 ≤ n := (by have h5 := h1.len; rw [length_limbs] at h5; have := nl_val HN.out.small; have := HN.out.len; omega))
           | (refine step_append_src rfl (.tmp 8) (.tmp 10) 23 rfl w.heap.size 126 i0 _ 1 4 under_nat hi hz0 hz1 hz2 rfl (by decide) _ q _ rfl (owns_of_blk (l := List.replicate q 0) (m := []) (c := q) (by rw [List.append_nil]; first | exact Blk.new _ _ _ | exact Blk.ext (w := (World.alloc _ _).drew) (Blk.new _ _ _) hE1) (by first | exact Nat.le_refl _ | exact hE1.size) (by simp) (by simp) (by omega)) _ _ _ _ rfl (NatS.src (by first | exact h1 | exact h1.ext (Nat.le_refl _) ((Below.refl _ _).alloc (Nat.le_refl _) _))).1 (by rw [List.length_map, Nat.mul_one]; exact h1.len) (NatS.src (by first | exact h1 | exact h1.ext (Nat.le_refl _) ((Below.refl _ _).alloc (Nat.le_refl _) _))).2 (by simp [Value.oneCell']) (by unfold maxLen; omega) (by omega) (by have := hE1.size; simp at this ⊢; omega) ?_; intro v' w2 hown' hgrow hat))
  all_goals
    have hE2 : Ext w w2 := by
      first
      | exact (Below.trans (((Below.refl _ _).alloc (Nat.le_refl _) _).drew) (hE1.mono (by simp))).grown hgrow (by have := hE1.size; simp at this ⊢; omega) (fun k e => by cases e; exact Nat.le_refl _)
      | exact ((Below.trans hE0 hE1).alloc (by have := hE1.size; simpa using this) _).grown hgrow (by have := hE1.size; simp at this ⊢; omega) (fun k e => by cases e; exact hE1.size)
    obtain ⟨a2, c2, rfl, h2⟩ := natS_of_owns' (l := List.replicate q 0 ++ limbs (val l)) (by rw [List.map_append]; exact hown') ((small_replicate _).append (small_limbs _))
    have hv : val (List.replicate q 0 ++ limbs (val l)) * 2 ^ r = m := by
      rw [val_append, val_replicate, val_limbs, List.length_replicate, Nat.zero_add, Nat.mul_right_comm, HQ.out, Nat.mul_comm]; exact hm.out
    have HV := Lib.hid hv
    have H2 := Lib.hid h2
    have HE := Lib.hid hE2
    clear hown' hgrow hat hE1 hE2 h1 h2 hv
    have e2 := shl_cast hr
    have HE2 := Lib.hid e2
    clear e2
    go_wp2_with fail
    rw [HE2.out]
    refine (r1Small_any w.heap.size w2 _ _ _ _ H2.out (by omega) (2 ^ r) (by have := pow_s_le hr; omega) m HV).mono ?_
    rintro e w3 ⟨a3, n3, c3, rfl, h3, hE3⟩
    have HF := Lib.hid (RNat.intro (h3.mono HE.out.size (Kept.refl _ _)) (Ext.trans HE.out hE3))
    clear h3 hE3
    go_wp2_with fail
    go_ret
    exact HF.out
end Go.Proofs.YtbhenelehhiakaaGreat
