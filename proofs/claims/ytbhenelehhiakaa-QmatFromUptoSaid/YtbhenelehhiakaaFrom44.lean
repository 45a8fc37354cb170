/-
  From an argument's reading to ours: rows of fractions that came in, and how long they are.
-/
import Derived.Test.YtbhenelehhiakaaFrom42
import Derived.Test.YtbhenelehhiakaaFrom38
set_option linter.unusedVariables false
set_option linter.unusedSimpArgs false
namespace Go.Proofs.Ytbhenelehhiakaa
open Go.RowKit Go.ChangeShapes Go.WideShapes Go.ChangeAt

theorem nl_lcm_le (m d : Nat) : nl (Nat.lcm m d) ≤ nl m + nl d := Nat.le_trans (nl_mono (Nat.div_le_self _ _)) (nl_mul m d)
theorem frR_den_nl (z d : Int) : nl (frR (z, d)).den ≤ nl d.natAbs + 1 := by
  by_cases h : d = 0
  · subst h
    have : (frR (z, 0)).den = 1 := by show (Rat.divInt z 0).den = 1; rw [Rat.divInt_zero]; rfl
    rw [this, show nl 1 = 1 from by decide]; omega
  · have := nl_mono (ratv_le z d h).2
    exact Nat.le_trans this (by omega)
theorem nl_comDen_sum (qs : List (Int × Int)) : nl (comDen (qs.map frR)) ≤ 1 + (qs.map fun q => nl q.2.natAbs + 1).sum := by
  have key : ∀ (qs : List (Int × Int)) (m : Nat), nl ((qs.map frR).foldl (fun (m : Nat) q => Nat.lcm m q.den) m) ≤ nl m + (qs.map fun q => nl q.2.natAbs + 1).sum := by
    intro qs
    induction qs with
    | nil => intro m; simp
    | cons q qs ih =>
      intro m
      rw [List.map_cons, List.foldl_cons, List.map_cons, List.sum_cons]
      have h1 := ih (Nat.lcm m (frR q).den)
      have h2 := nl_lcm_le m (frR q).den
      have h3 := frR_den_nl q.1 q.2
      have h4 : nl (frR q).den ≤ nl q.2.natAbs + 1 := h3
      omega
  have := key qs 1
  rw [show nl 1 = 1 from by decide] at this
  exact this

section
variable {H : Type} {enc : TypeId × Value → H} {w : World} {sp : Nat → Bool} {hd : Bool}

set_option maxRecDepth 100000 in
theorem gives_rat (K : Nat) : Gives K H enc w sp hd 62 (rFr K) (fun q b => nl q.1.natAbs + nl q.2.natAbs + 7 ≤ b) := fun fuel cs x h hb hK => by
  obtain ⟨y0, y1, n, rfl, hl, h0, h1⟩ := trod_struct2 Try.underlying62 h
  have hl2 : cs.length = 4 := by rw [hl]; kernel_rfl
  have hc1 : Try.prog.cellsOf 27 = 2 := by kernel_rfl
  match cs, hl2 with
  | [v0, v1, v2, v3], _ =>
    simp only [hc1, List.drop_zero, List.take_succ_cons, List.take_zero, List.drop_succ_cons] at h0 h1
    have hbk : Rows.uptoBulk (.agg [y0.1, y1.1] : DataW H) = Rows.uptoBulk y0.1 + Rows.uptoBulk y1.1 + 1 := by simp [Rows.uptoBulk, Rows.uptoBulkAll]
    rw [hbk] at hK
    obtain ⟨z, ⟨b, a, m, c, l, hcs, hN, hv, hm⟩, hMd⟩ := gives_int K n [v0, v1] y0 h0 hb.left (by omega)
    obtain ⟨d, ⟨b2, a2, m2, c2, l2, hcs2, hN2, hv2, hm2⟩, hMd2⟩ := gives_int K n [v2, v3] y1 h1 hb.right (by omega)
    cases hcs
    cases hcs2
    refine ⟨(z, d), ⟨b, a, m, c, b2, a2, m2, c2, rfl, l, l2, hN, hN2, hv, hv2, hm, hm2⟩, ?_⟩
    rw [hbk]
    show nl z.natAbs + nl d.natAbs + 7 ≤ _
    omega

theorem sum_le_sum {α : Type} : ∀ (xs : List α) (bs : List Nat) (f : α → Nat), bs.length = xs.length → (∀ i (h1 : i < xs.length) (h2 : i < bs.length), f xs[i] ≤ bs[i]) → (xs.map f).sum ≤ bs.sum
  | [], bs, f, _, _ => by simp
  | x :: xs, [], f, h, _ => by simp at h
  | x :: xs, b :: bs, f, h, hf => by
    have h1 := sum_le_sum xs bs f (by simpa using h) (fun i h1 h2 => hf (i + 1) (by simpa using h1) (by simpa using h2))
    have h2 : f x ≤ b := hf 0 (by simp) (by simp)
    rw [List.map_cons, List.sum_cons, List.sum_cons]; omega

theorem sum_flat_map {α : Type} (f : α → Nat) : ∀ l : List (List α), (l.flatten.map f).sum = (l.map fun xs => (xs.map f).sum).sum
  | [] => rfl
  | x :: l => by rw [List.flatten_cons, List.map_append, List.sum_append, sum_flat_map f l, List.map_cons, List.sum_cons]

theorem gives_ratRow (K : Nat) : Gives K H enc w sp hd 55 (rFr K).slice (fun qs b => qs.length + 1 ≤ b ∧ (qs.map fun q => nl q.2.natAbs + 1).sum + 1 ≤ b) := fun fuel cs x h hb hK => by
  obtain ⟨a, n, c, qs, bs, rfl, hsl, hbl, hM, hsum⟩ := gives_slice Try.underlying55 (r := rFr K) (by kernel_rfl) (by show 0 < 4; decide) (gives_rat K) fuel cs x h hb hK
  have h1 := sum_le_sum qs bs (fun q => nl q.2.natAbs + 1) hbl (fun i h1 h2 => by have : nl qs[i].1.natAbs + nl qs[i].2.natAbs + 7 ≤ bs[i] := hM i h1 h2; omega)
  have h2 := sum_le_sum qs bs (fun _ => 1) hbl (fun i h1 h2 => by have : nl qs[i].1.natAbs + nl qs[i].2.natAbs + 7 ≤ bs[i] := hM i h1 h2; omega)
  rw [List.map_const', List.sum_replicate_nat, Nat.mul_one] at h2
  exact ⟨qs, ⟨a, n, c, rfl, hsl⟩, by omega, by omega⟩

/-- rows of fractions that came in -/
theorem open_rats (K : Nat) {fuel : Nat} {cs : List Value} {x : DataW H × List MemPlace} (h : DataW.trod enc Try.prog w 0 sp hd fuel 54 cs = some x) (hb : Bare w x.2) (hK : Rows.uptoBulk x.1 ≤ K) :
    ∃ a n c qss, cs = [.slice a n c] ∧ Sl (rFr K).slice 0 w a n c qss ∧ n ≤ K ∧ (∀ qs ∈ qss, qs.length ≤ K) ∧ qss.flatten.length ≤ K ∧ nl (comDen (qss.flatten.map frR)) ≤ K + 1 := by
  obtain ⟨a, n, c, qss, bs, rfl, hsl, hbl, hM, hsum⟩ := gives_slice Try.underlying54 (r := (rFr K).slice) (by kernel_rfl) (by show 0 < 1; decide) (gives_ratRow K) fuel cs x h hb hK
  have h1 := sum_le_sum qss bs List.length hbl (fun i h1 h2 => by have := (hM i h1 h2).1; omega)
  have h2 := sum_le_sum qss bs (fun qs => (qs.map fun q => nl q.2.natAbs + 1).sum) hbl (fun i h1 h2 => by have := (hM i h1 h2).2; omega)
  have h3 := sum_le_sum qss bs (fun _ => 1) hbl (fun i h1 h2 => by have := (hM i h1 h2).2; omega)
  rw [List.map_const', List.sum_replicate_nat, Nat.mul_one] at h3
  have h4 := nl_comDen_sum qss.flatten
  rw [sum_flat_map] at h4
  have h5 := hsl.len
  refine ⟨a, n, c, qss, rfl, hsl, by omega, fun qs hq => ?_, by rw [List.length_flatten]; omega, ?_⟩
  · obtain ⟨i, hi, rfl⟩ := List.getElem_of_mem hq
    have := (hM i hi (by omega)).1
    have := mem_le_sum (List.getElem_mem (show i < bs.length by omega))
    omega
  · omega
end
end Go.Proofs.Ytbhenelehhiakaa
