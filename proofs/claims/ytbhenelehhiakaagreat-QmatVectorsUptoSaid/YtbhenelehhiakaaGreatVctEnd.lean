/-
  The law QmatVectors: the statement, where what it reads is of bulk at most 1048576.
-/
import Derived.Test.YtbhenelehhiakaaGreatVct14
import Derived.Test.YtbhenelehhiakaaGreatRows
import Derived.WalkKit
import Derived.ProofKit
import Derived.OpenShut
import Derived.JoinedCond
set_option linter.unusedVariables false
set_option linter.unusedSimpArgs false
namespace Go.Proofs.YtbhenelehhiakaaGreat.qmatVectors
open Go.ChangeShapes Go.WideShapes Go.ChangeAt Go.RowKit
theorem own : ownKnob Tryz.prog.godebug = none := by kernel_rfl
set_option maxRecDepth 100000 in
theorem contract (H : Type) (enc : TypeId × Value → H) (W : World) (base : Nat) (args : Array Value) (ds gs : List (DataW H)) (before : List MemPlace)
  (hval : ∀ (j : Nat) t v, Tryz.f7.params[j]? = some t → args[j]? = some v → Value.okWide Tryz.prog W .any base t v)
  (hW : DataW.Whole enc Tryz.prog Tryz.f7.params.toList Rows.qmatVectorsSpec.vars false W args.toList ds gs before) (hk : Rows.uptoSmall H (ds ++ gs) = true) :
  Calls Tryz.prog 7 args W fun e W' => ∃ v, e = .returned v ∧ Rows.qmatVectorsSpec.post enc Tryz.prog Tryz.f7 false true false false W args v W' := by
 have hW' := hW
 obtain ⟨p, q, hA0, hV, rfl, hfz, hnd⟩ := hW
 have hlt := hW'.lt
 have hA : DataW.TrodAll enc Tryz.prog W 0 (fun _ => true) true Tryz.f7.params.toList args.toList ds p := hA0
 have hA1 := hA
 rw [Tryz.params7] at hA hval
 obtain ⟨v0, vs0, d0, ds0, p0, q0, hargs, rfl, rfl, h0, r0⟩ := trodAll_cons hA
 obtain ⟨v1, vs1, d1, ds1, p1, q1, rfl, rfl, rfl, h1, r1⟩ := trodAll_cons r0
 obtain ⟨v2, vs2, d2, ds2, p2, q2, rfl, rfl, rfl, h2, r2⟩ := trodAll_cons r1
 obtain ⟨rfl, rfl, rfl⟩ := trodAll_nil r2
 obtain rfl : args = #[v0, v1, v2] := by cases args; simp_all
 obtain ⟨rfl, rfl⟩ := trodVars_none hV
 have hb0 : Rows.uptoBulk d0 ≤ 1048576 ∧ Rows.uptoBulk d1 ≤ 1048576 ∧ Rows.uptoBulk d2 ≤ 1048576 := by
  have h := of_decide_eq_true hk
  simp only [List.append_nil, Rows.uptoBulkAll] at h
  omega
 obtain ⟨fuel, hf⟩ := h0
 obtain ⟨fuel1, hf1⟩ := h1
 obtain ⟨fuel2, hf2⟩ := h2
 obtain ⟨cs, rfl, _⟩ := okWide_struct Tryz.underlying28 (hval 0 28 v0 rfl rfl)
 obtain ⟨cs1, rfl, _⟩ := okWide_arr Tryz.underlying80 (hval 1 80 v1 rfl rfl)
 obtain ⟨cs2, rfl, _⟩ := okWide_struct Tryz.underlying75 (hval 2 75 v2 rfl rfl)
 obtain ⟨x, ⟨b, a, n, c, a2, n2, c2, hcs, hM⟩, hx1, hx2, hx3, hx4⟩ := gives_mat 1048576 fuel _ _ hf (fun b o hm => hfz b o (List.mem_append_left _ (List.mem_append_left _ hm))) hb0.1
 obtain ⟨bv, av, nv, cv, av2, nv2, cv2, v, bw, aw, nw, cw, aw2, nw2, cw2, y, hcs', hV', hW2, hnv, hnw⟩ := open_vec2 1048576 hf1 (fun b o hm => hfz b o (List.mem_append_left _ (List.mem_append_right _ (List.mem_append_left _ hm)))) hb0.2.1
 obtain ⟨q, hq, _⟩ := gives_rat 1048576 fuel2 _ _ hf2 (fun b o hm => hfz b o (List.mem_append_left _ (List.mem_append_right _ (List.mem_append_right _ (List.mem_append_left _ hm))))) hb0.2.2
 obtain ⟨bx, ax, nx, cx, by1, ay, ny, cy, hcsq, hqr⟩ := hq
 have hcs2 : cs = #[.bool b, .slice a n c, .slice a2 n2 c2] := by
  have : cs.toList = [.bool b, .slice a n c, .slice a2 n2 c2] := hcs
  cases cs; simp_all
 have hcs3 : cs1 = #[.bool bv, .slice av nv cv, .slice av2 nv2 cv2, .bool bw, .slice aw nw cw, .slice aw2 nw2 cw2] := by
  have : cs1.toList = [.bool bv, .slice av nv cv, .slice av2 nv2 cv2, .bool bw, .slice aw nw cw, .slice aw2 nw2 cw2] := hcs'
  cases cs1; simp_all
 have hcs4 : cs2 = #[.bool bx, .slice ax nx cx, .bool by1, .slice ay ny cy] := by
  have : cs2.toList = [.bool bx, .slice ax nx cx, .bool by1, .slice ay ny cy] := hcsq
  cases cs2; simp_all
 subst hcs2 hcs3 hcs4
 have hb1 : x.2.length + 1 ≤ Rows.uptoBulk d0 := hx1
 have hl1 := MatS.len2 hM
 refine (vec_walk 1048576 (by omega) W b a a2 n c n2 c2 x hM bv av av2 nv cv nv2 cv2 v hV' bw aw aw2 nw cw nw2 cw2 y hW2 bx by1 ax ay nx cx ny cy q ⟨bx, ax, nx, cx, by1, ay, ny, cy, rfl, hqr⟩ (Lib.hid fun zs hz => Nat.le_trans (hx4 zs hz) hb0.1) (by omega) hnv hnw).mono fun e W' ⟨he, hE⟩ => ?_
 subst he
 refine ⟨_, rfl, post_of_ext (pa := p0 ++ (p1 ++ (p2 ++ []))) (pv := []) hW' (fun _ _ _ => (trodAll_cons_mk (shut_bool Tryz.underlying4 _) trodAll_mk0)) (fun sp hsp => ?_) (fun _ _ => rfl) rfl hE (ok_one (by kernel_rfl) rfl (okWide_bool_mk Tryz.underlying4 _))⟩
 exact trodAll_stays (by kernel_rfl) hE (by rw [Tryz.params7]; intro t ht; simp at ht; rcases ht with rfl | rfl | rfl <;> exact ⟨by kernel_rfl, of_decide_eq_true (by kernel_rfl)⟩) hA1 (fun x hx => hlt x (by simpa using hx)) sp (fun x hx => hsp x (by simpa using hx))
set_option maxRecDepth 100000 in
theorem lifted (os : Os) (started : os.Started) (H : Type) (enc : TypeId × Value → H) (F : Stop.Interp) :
  ReturnsInHanded {} Tryz.checked os 7 .any ((Rows.OpenSpec.upto Rows.qmatVectorsSpec).pre6 enc Tryz.prog Tryz.f7 Rows.qmatVectorsUptoRow.domain false) (((Rows.OpenSpec.upto Rows.qmatVectorsSpec).at F).post enc Tryz.prog Tryz.f7 false true false false) := by
 refine returnsInHanded_of_cond (C := Tryz.checked) (s := Rows.OpenSpec.upto Rows.qmatVectorsSpec) (k := Rows.uptoSmall) rfl own started (by kernel_rfl) Tryz.func7
  (OpenSpec.witness (enc := enc) (C := Tryz.checked) (s := Rows.OpenSpec.upto Rows.qmatVectorsSpec) (k := Rows.uptoSmall) rfl false ⟨#[], #[.agg #[.bool false, .slice none 0 0, .slice none 0 0], .agg #[.bool false, .slice none 0 0, .slice none 0 0, .bool false, .slice none 0 0, .slice none 0 0], .agg #[.bool false, .slice none 0 0, .bool false, .slice none 0 0]], []⟩ 8 (by kernel_rfl) (by kernel_rfl) (by kernel_rfl)
   (x := ([.agg [.agg [.lit (.bool false), .nil], .nil], .agg [.agg [.agg [.lit (.bool false), .nil], .nil], .agg [.agg [.lit (.bool false), .nil], .nil]], .agg [.agg [.lit (.bool false), .nil], .agg [.lit (.bool false), .nil]]], [], [])) (by kernel_rfl) rfl (by kernel_rfl)) ?_
 intro W base args ds gs before hval hW _ hk _
 exact contract H enc W base args ds gs before hval hW hk
theorem over : Rows.qmatVectorsUptoRow.holds Tryz.pinned (Rows.OpenSpec.upto Rows.qmatVectorsSpec) :=
 OpenClaim.holds_of_cond 7 Tryz.f7 rfl rfl rfl rfl rfl rfl rfl ⟨rfl, rfl, rfl, rfl, rfl⟩ rfl rfl rfl rfl rfl (by kernel_rfl) Tryz.func7 (by kernel_rfl)
  (of_decide_eq_true (by kernel_rfl)) (by unfold Func.isWrapper; first | (rw [if_pos (by decide +kernel)]; kernel_rfl) | (rw [if_neg (by decide +kernel)]; exact ⟨rfl, rfl⟩))
  (fun os started H enc _ F => lifted os started H enc F)
theorem proved : Rows.QmatVectorsUptoSaid :=
 over
#print axioms proved
end Go.Proofs.YtbhenelehhiakaaGreat.qmatVectors
