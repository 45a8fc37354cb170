/-
  The law QmatSums: the statement, where what it reads is of bulk at most 1048576.
-/
import Derived.Test.YtbhenelehhiakaaGreatRows
import Derived.WalkKit
import Derived.ProofKit
import Derived.OpenShut
import Derived.JoinedCond
import Derived.Test.YtbhenelehhiakaaGreatSum50
import Derived.Test.YtbhenelehhiakaaGreatSum53
import Derived.Test.YtbhenelehhiakaaGreatSum52
import Derived.Test.YtbhenelehhiakaaGreatSum55
set_option linter.unusedVariables false
set_option linter.unusedSimpArgs false
namespace Go.Proofs.YtbhenelehhiakaaGreat.qmatSums
open Go.ChangeShapes Go.WideShapes Go.ChangeAt Go.RowKit

theorem own : ownKnob Tryz.prog.godebug = none := by kernel_rfl

set_option maxRecDepth 100000 in
theorem contract (H : Type) (enc : TypeId × Value → H) (W : World) (base : Nat) (args : Array Value) (ds gs : List (DataW H)) (before : List MemPlace)
    (hval : ∀ (j : Nat) t v, Tryz.f6.params[j]? = some t → args[j]? = some v → Value.okWide Tryz.prog W .any base t v)
    (hW : DataW.Whole enc Tryz.prog Tryz.f6.params.toList Rows.qmatSumsSpec.vars false W args.toList ds gs before) (hk : Rows.uptoSmall H (ds ++ gs) = true) :
    Calls Tryz.prog 6 args W fun e W' => ∃ v, e = .returned v ∧ Rows.qmatSumsSpec.post enc Tryz.prog Tryz.f6 false true false false W args v W' := by
  have hW' := hW
  obtain ⟨p, q, hA0, hV, rfl, hfz, hnd⟩ := hW
  have hlt := hW'.lt
  have hA : DataW.TrodAll enc Tryz.prog W 0 (fun _ => true) true Tryz.f6.params.toList args.toList ds p := hA0
  have hA1 := hA
  rw [Tryz.params6] at hA hval
  obtain ⟨v0, vs0, d0, ds0, p0, q0, hargs, rfl, rfl, h0, r0⟩ := trodAll_cons hA
  obtain ⟨v1, vs1, d1, ds1, p1, q1, rfl, rfl, rfl, h1, r1⟩ := trodAll_cons r0
  obtain ⟨v2, vs2, d2, ds2, p2, q2, rfl, rfl, rfl, h2, r2⟩ := trodAll_cons r1
  obtain ⟨rfl, rfl, rfl⟩ := trodAll_nil r2
  obtain rfl : args = #[v0, v1, v2] := by cases args; simp_all
  obtain ⟨rfl, rfl⟩ := trodVars_none hV
  have hb0 : Rows.uptoBulk d0 ≤ 1048576 ∧ Rows.uptoBulk d1 ≤ 1048576 ∧ Rows.uptoBulk d2 ≤ 1048576 := by
    have h := of_decide_eq_true hk
    simp only [List.append_nil, Rows.uptoBulkAll] at h
    omega
  obtain ⟨fuel, hf⟩ := h0
  obtain ⟨fuel1, hf1⟩ := h1
  obtain ⟨fuel2, hf2⟩ := h2
  obtain ⟨cs, rfl, _⟩ := okWide_struct Tryz.underlying28 (hval 0 28 v0 rfl rfl)
  obtain ⟨cs1, rfl, _⟩ := okWide_struct Tryz.underlying28 (hval 1 28 v1 rfl rfl)
  obtain ⟨cs2, rfl, _⟩ := okWide_struct Tryz.underlying75 (hval 2 75 v2 rfl rfl)
  obtain ⟨x, ⟨b, a, n, c, a2, n2, c2, hcs, hM⟩, hx1, hx2, hx3, hx4⟩ := gives_mat 1048576 fuel _ _ hf (fun b o hm => hfz b o (List.mem_append_left _ (List.mem_append_left _ hm))) hb0.1
  obtain ⟨y, ⟨b', a', n', c', a2', n2', c2', hcs', hM'⟩, hy1, hy2, hy3, hy4⟩ := gives_mat 1048576 fuel1 _ _ hf1 (fun b o hm => hfz b o (List.mem_append_left _ (List.mem_append_right _ (List.mem_append_left _ hm)))) hb0.2.1
  obtain ⟨q, hq, _⟩ := gives_rat 1048576 fuel2 _ _ hf2 (fun b o hm => hfz b o (List.mem_append_left _ (List.mem_append_right _ (List.mem_append_right _ (List.mem_append_left _ hm))))) hb0.2.2
  obtain ⟨bx, ax, nx, cx, by1, ay, ny, cy, hcsq, hqr⟩ := hq
  have hcs2 : cs = #[.bool b, .slice a n c, .slice a2 n2 c2] := by
    have : cs.toList = [.bool b, .slice a n c, .slice a2 n2 c2] := hcs
    cases cs; simp_all
  have hcs3 : cs1 = #[.bool b', .slice a' n' c', .slice a2' n2' c2'] := by
    have : cs1.toList = [.bool b', .slice a' n' c', .slice a2' n2' c2'] := hcs'
    cases cs1; simp_all
  have hcs4 : cs2 = #[.bool bx, .slice ax nx cx, .bool by1, .slice ay ny cy] := by
    have : cs2.toList = [.bool bx, .slice ax nx cx, .bool by1, .slice ay ny cy] := hcsq
    cases cs2; simp_all
  subst hcs2 hcs3 hcs4
  have hb1 : x.2.length + 1 ≤ Rows.uptoBulk d0 := hx1
  have hb2 : y.2.length + 1 ≤ Rows.uptoBulk d1 := hy1
  have hl1 := MatS.len2 hM
  have hl2 := MatS.len2 hM'
  refine (sums_walk 1048576 (by omega) (by omega) W b a a2 n c n2 c2 x hM b' a' a2' n' c' n2' c2' y hM' bx by1 ax ay nx cx ny cy q ⟨bx, ax, nx, cx, by1, ay, ny, cy, rfl, hqr⟩ (Lib.hid fun zs hz => Nat.le_trans (hx4 zs hz) hb0.1) (Lib.hid fun zs hz => Nat.le_trans (hy4 zs hz) hb0.2.1) (by omega) (by omega)).mono fun e W' ⟨he, hE⟩ => ?_
  subst he
  refine ⟨_, rfl, post_of_ext (pa := p0 ++ (p1 ++ (p2 ++ []))) (pv := []) hW' (fun _ _ _ => (trodAll_cons_mk (shut_bool Tryz.underlying4 _) trodAll_mk0)) (fun sp hsp => ?_) (fun _ _ => rfl) rfl hE (ok_one (by kernel_rfl) rfl (okWide_bool_mk Tryz.underlying4 _))⟩
  exact trodAll_stays (by kernel_rfl) hE (by rw [Tryz.params6]; intro t ht; simp at ht; rcases ht with rfl | rfl <;> exact ⟨by kernel_rfl, of_decide_eq_true (by kernel_rfl)⟩) hA1 (fun x hx => hlt x (by simpa using hx)) sp (fun x hx => hsp x (by simpa using hx))

set_option maxRecDepth 100000 in
theorem lifted (os : Os) (started : os.Started) (H : Type) (enc : TypeId × Value → H) (F : Stop.Interp) :
    ReturnsInHanded {} Tryz.checked os 6 .any ((Rows.OpenSpec.upto Rows.qmatSumsSpec).pre6 enc Tryz.prog Tryz.f6 Rows.qmatSumsUptoRow.domain false) (((Rows.OpenSpec.upto Rows.qmatSumsSpec).at F).post enc Tryz.prog Tryz.f6 false true false false) := by
  refine returnsInHanded_of_cond (C := Tryz.checked) (s := Rows.OpenSpec.upto Rows.qmatSumsSpec) (k := Rows.uptoSmall) rfl own started (by kernel_rfl) Tryz.func6
    (OpenSpec.witness (enc := enc) (C := Tryz.checked) (s := Rows.OpenSpec.upto Rows.qmatSumsSpec) (k := Rows.uptoSmall) rfl false ⟨#[], #[.agg #[.bool false, .slice none 0 0, .slice none 0 0], .agg #[.bool false, .slice none 0 0, .slice none 0 0], .agg #[.bool false, .slice none 0 0, .bool false, .slice none 0 0]], []⟩ 8 (by kernel_rfl) (by kernel_rfl) (by kernel_rfl)
      (x := ([.agg [.agg [.lit (.bool false), .nil], .nil], .agg [.agg [.lit (.bool false), .nil], .nil], .agg [.agg [.lit (.bool false), .nil], .agg [.lit (.bool false), .nil]]], [], [])) (by kernel_rfl) rfl (by kernel_rfl)) ?_
  intro W base args ds gs before hval hW _ hk _
  exact contract H enc W base args ds gs before hval hW hk

theorem over : Rows.qmatSumsUptoRow.holds Tryz.pinned (Rows.OpenSpec.upto Rows.qmatSumsSpec) :=
  OpenClaim.holds_of_cond 6 Tryz.f6 rfl rfl rfl rfl rfl rfl rfl ⟨rfl, rfl, rfl, rfl, rfl⟩ rfl rfl rfl rfl rfl (by kernel_rfl) Tryz.func6 (by kernel_rfl)
    (of_decide_eq_true (by kernel_rfl)) (by unfold Func.isWrapper; first | (rw [if_pos (by decide +kernel)]; kernel_rfl) | (rw [if_neg (by decide +kernel)]; exact ⟨rfl, rfl⟩))
    (fun os started H enc _ F => lifted os started H enc F)

/-- the statement -/
theorem proved : Rows.QmatSumsUptoSaid :=
  over
#print axioms proved
end Go.Proofs.YtbhenelehhiakaaGreat.qmatSums
