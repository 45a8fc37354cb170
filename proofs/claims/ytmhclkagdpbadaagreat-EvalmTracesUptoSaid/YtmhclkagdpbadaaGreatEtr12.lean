/-
  A part of the proof.
-/
import Derived.Test.YtmhclkagdpbadaaGreatEtr10
import Derived.Test.YtmhclkagdpbadaaGreatEtr11
set_option linter.unusedVariables false
set_option linter.unusedSimpArgs false
set_option linter.unusedSimpArgs false
set_option linter.unusedVariables false
namespace Go.Mt
open Go Go.Pm Go.Proofs
theorem subC_ok (x y c id n : Nat) (hn : id < n) (hx : x < 4294967296) (hy : y < 4294967296) (hc : c ≤ 1) : HCall Tryz.prog 290 [.d (ud x), .d (ud y), .pr id 0 0 0] [(id, .box [.d (ud c)])] n (.d (ud (subOut c x y))) [(id, .box [.d (ud (subNxt c x y))])] := by
  refine hcall_of (L := []) hmo Tryz.func290 rfl (by kernel_rfl) (by simp [Tryz.ntmps290]) (by simp -implicitDefEqProofs [go_sem, hn]) (by simp -implicitDefEqProofs [go_sem, hn]) ?_
  simp -implicitDefEqProofs [go_sem, Tryz.ntmps290]
  refine .inl ⟨_, sub32_ok x y c hx hy hc, ?_⟩
  simp -implicitDefEqProofs [go_sem, ud]
theorem subClo : Clo 290 subOut subNxt (fun s => s ≤ 1) where
  call x y s id n hid hx hy hs := subC_ok x y s id n hid hx hy hs
  next x y s _ _ _ := subNxt_le s x y
set_option maxRecDepth 100000 in
theorem less_ok (l m : List Nat) (hl : Small l) (hm : Small m) (hln : l.length < 1099511627776) (hmn : m.length < 1099511627776) (hle : val m ≤ val l) : PCall Tryz.prog 289 [.d (.sl (les l)), .d (.sl (les m))] (.one (.d (.sl (les (limbs (val l - val m)))))) := by
  refine pcall_of hmo Tryz.func289 rfl (by kernel_rfl) (by simp [Tryz.ntmps289]) ?_
  simp -implicitDefEqProofs [go_sem, Tryz.ntmps289]
  refine .inl ⟨_, trim_ok l hl (by omega), ?_⟩
  simp -implicitDefEqProofs [go_sem]
  refine .inl ⟨_, trim_ok m hm (by omega), ?_⟩
  have b1 := nl_val hl
  have b2 := nl_val hm
  simp -implicitDefEqProofs [go_sem]
  have n1 := length_limbs (val l)
  have n2 := length_limbs (val m)
  have ea := val_limbs (val l)
  have eb := val_limbs (val m)
  have sa := small_limbs (val l)
  have sb := small_limbs (val m)
  obtain ⟨a, ha⟩ : ∃ a, a = limbs (val l) := ⟨_, rfl⟩
  obtain ⟨b, hb⟩ : ∃ b, b = limbs (val m) := ⟨_, rfl⟩
  rw [← ha] at n1 ea sa
  rw [← hb] at n2 eb sb
  rw [← ha, ← hb]
  refine .inr ⟨[(4, .box [.d (ud 0)])], _, _, each_ok subClo a b sa sb (by omega) (by omega) 0 4 _ (by decide) (by omega), by simp -implicitDefEqProofs [go_sem, ud], ?_⟩
  obtain ⟨N, hN⟩ : ∃ N, N = max a.length b.length := ⟨_, rfl⟩
  have hs := sub_end sa sb (by rw [ea, eb]; exact hle) N (by omega) (by omega)
  have hsm := small_outs subOut subNxt 0 a b (fun s x y => Nat.mod_lt _ (by decide)) N
  have hln2 := length_outs subOut subNxt 0 a b N
  rw [← hN]
  obtain ⟨O, hO⟩ : ∃ O, O = Go.Mt.outs subOut subNxt 0 a b N := ⟨_, rfl⟩
  obtain ⟨c, hcc⟩ : ∃ c, c = stp subNxt 0 a b N := ⟨_, rfl⟩
  rw [← hO] at hs hsm hln2
  rw [← hO, ← hcc]
  have hown := own_ok O hsm (by omega)
  rw [hs, ea, eb] at hown
  simp -implicitDefEqProofs [go_sem]
  refine .inl ⟨_, hown, ?_⟩
  simp -implicitDefEqProofs [go_sem]
theorem sub_ok (l m : List Nat) (hl : Small l) (hm : Small m) (hln : l.length < 1099511627776) (hmn : m.length < 1099511627776) (hle : val m ≤ val l) : PCall Tryz.prog 283 [.d (.sl (les l)), .d (.sl (les m))] (.tup [.d (.sl (les (limbs (val l - val m)))), .d (.v (.int .i64 0))]) := by
  refine pcall_of hmo Tryz.func283 rfl (by kernel_rfl) (by simp [Tryz.ntmps283]) ?_
  simp -implicitDefEqProofs [go_sem, Tryz.ntmps283]
  refine .inl ⟨_, cmp_ok l m hl hm (by omega) (by omega), ?_⟩
  have h : ¬ cmpZ (val l) (val m) < 0 := by unfold cmpZ; split; omega; split <;> omega
  simp -implicitDefEqProofs [go_sem, h]
  refine .inl ⟨_, less_ok l m hl hm hln hmn hle, ?_⟩
  simp -implicitDefEqProofs [go_sem]
end Go.Mt
