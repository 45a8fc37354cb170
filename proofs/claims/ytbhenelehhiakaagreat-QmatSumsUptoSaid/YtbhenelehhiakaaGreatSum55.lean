/-
  From an argument's reading to ours: rows of fractions that came in, and how long they are.
-/
import Derived.Test.YtbhenelehhiakaaGreatSum52
import Derived.Test.YtbhenelehhiakaaGreatSum54
set_option linter.unusedVariables false
set_option linter.unusedSimpArgs false
namespace Go.Proofs.YtbhenelehhiakaaGreat
open Go.RowKit Go.ChangeShapes Go.WideShapes Go.ChangeAt

section
variable {H : Type} {enc : TypeId × Value → H} {w : World} {sp : Nat → Bool} {hd : Bool}

set_option maxRecDepth 100000 in
theorem gives_rat (K : Nat) : Gives K H enc w sp hd 75 (rFr K) (fun q b => nl q.1.natAbs + nl q.2.natAbs + 7 ≤ b) := fun fuel cs x h hb hK => by
  obtain ⟨y0, y1, n, rfl, hl, h0, h1⟩ := trod_struct2 Tryz.underlying75 h
  have hl2 : cs.length = 4 := by rw [hl]; kernel_rfl
  have hc1 : Tryz.prog.cellsOf 25 = 2 := by kernel_rfl
  match cs, hl2 with
  | [v0, v1, v2, v3], _ =>
    simp only [hc1, List.drop_zero, List.take_succ_cons, List.take_zero, List.drop_succ_cons] at h0 h1
    have hbk : Rows.uptoBulk (.agg [y0.1, y1.1] : DataW H) = Rows.uptoBulk y0.1 + Rows.uptoBulk y1.1 + 1 := by simp [Rows.uptoBulk, Rows.uptoBulkAll]
    rw [hbk] at hK
    obtain ⟨z, ⟨b, a, m, c, l, hcs, hN, hv, hm⟩, hMd⟩ := gives_int K n [v0, v1] y0 h0 hb.left (by omega)
    obtain ⟨d, ⟨b2, a2, m2, c2, l2, hcs2, hN2, hv2, hm2⟩, hMd2⟩ := gives_int K n [v2, v3] y1 h1 hb.right (by omega)
    cases hcs
    cases hcs2
    refine ⟨(z, d), ⟨b, a, m, c, b2, a2, m2, c2, rfl, l, l2, hN, hN2, hv, hv2, hm, hm2⟩, ?_⟩
    rw [hbk]
    show nl z.natAbs + nl d.natAbs + 7 ≤ _
    omega

end
end Go.Proofs.YtbhenelehhiakaaGreat
