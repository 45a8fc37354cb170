/-
  A part of the proof.
-/
import Derived.Test.YtmhclkagdpbadaaGreatEbr40
import Derived.Test.YtmhclkagdpbadaaGreatEbr42
set_option linter.unusedVariables false
set_option linter.unusedSimpArgs false
set_option linter.unusedSimpArgs false
set_option linter.unusedVariables false
namespace Go.Mt
open Go Go.Pm Go.Proofs
/-- a matrix that came in -/
structure Im (m : MR) : Prop where
  d : Rz m.1
  ld : m.1.2.length < 1048577
  z : ∀ r ∈ m.2, ∀ z ∈ r, Rz z ∧ z.2.length < 1048577
  n : m.2.length < 1048577
  w : ∀ r ∈ m.2, r.length < 1048577
  fl : m.2.flatten.length < 1048577
theorem Im.of {m : MR} {b : Nat} (h : MatM m b) (hb : b ≤ 1048576) : Im m :=
  ⟨h.1.1, by have := h.1.2; omega, fun r hr z hz => ⟨(h.2.1 r hr z hz).1, by have := (h.2.1 r hr z hz).2; omega⟩, by have := h.2.2.1; omega, fun r hr => by have := h.2.2.2.1 r hr; omega, by have := h.2.2.2.2; omega⟩
theorem Im.g {m : MR} (h : Im m) : Grw m.2 := ⟨fun r hr z hz => (h.z r hr z hz).1, by have := h.n; omega, fun r hr => by have := h.w r hr; omega⟩
theorem check_parts {m : MR} (h : checkE m = 0) : ofR m.1 ≠ 0 ∧ evenB m.2 = true := by
  unfold checkE at h
  by_cases h0 : ofR m.1 = 0
  · rw [if_pos h0] at h; exact absurd h (by decide)
  · rw [if_neg h0] at h
    by_cases h1 : evenB m.2 = true
    · exact ⟨h0, h1⟩
    · rw [if_neg h1] at h; exact absurd h (by decide)
theorem Im.gm {m : MR} (h : Im m) (hc : checkE m = 0) : Gm 1048577 m := by
  obtain ⟨h0, h1⟩ := check_parts hc
  exact ⟨h.d, h0, h.g, h1, fun r hr z hz => by
    have := zl_ofR (h.z r hr z hz).1
    have := (h.z r hr z hz).2
    omega, by have := zl_ofR h.d; have := h.ld; omega⟩
theorem Im.gl {m : MR} (h : Im m) (h0 : ofR m.1 ≠ 0) : Gl m := ⟨h.d, h0, h.g, by have := h.ld; omega, fun r hr z hz => by have := (h.z r hr z hz).2; omega⟩
theorem Im.vfl {m : MR} (h : Im m) : (valM m).flatten.length < 1048577 := by
  have e : (valM m).flatten.length = m.2.flatten.length := by
    rw [valM_rows, List.length_flatten, List.length_flatten, List.map_map]
    congr 1
    exact List.map_congr_left fun r _ => by simp [valR_len]
  rw [e]; exact h.fl
theorem Im.fit {m : MR} (h : Im m) : PCall Tryz.prog 67 [.d (md m)] (.one (.d (.v (.int .i64 (fitE m))))) :=
  fit11_p m h.d h.g (fun hc => h.gl (check_parts hc).1) (by have := h.fl; omega)
end Go.Mt
