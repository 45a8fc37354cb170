/-
  From an argument's reading to ours: what a matrix that came in looks like, and how long its parts are.
-/
import Derived.Test.YtbhenelehhiakaaGreatSum51
import Derived.Test.YtbhenelehhiakaaGreatSum31
import Derived.Test.YtbhenelehhiakaaGreatSum37
set_option linter.unusedVariables false
set_option linter.unusedSimpArgs false
namespace Go.Proofs.YtbhenelehhiakaaGreat
open Go.RowKit Go.ChangeShapes Go.WideShapes Go.ChangeAt

section
variable {H : Type} {enc : TypeId × Value → H} {w : World} {sp : Nat → Bool} {hd : Bool}

/-- none of these places is frozen -/
def Bare (w : World) (ps : List MemPlace) : Prop := ∀ b off, MemPlace.cell b off ∈ ps → w.frozen? ⟨b, off, none⟩ = false
theorem Bare.left {w : World} {p q : List MemPlace} (h : Bare w (p ++ q)) : Bare w p := fun b o hm => h b o (List.mem_append_left _ hm)
theorem Bare.right {w : World} {p q : List MemPlace} (h : Bare w (p ++ q)) : Bare w q := fun b o hm => h b o (List.mem_append_right _ hm)

theorem bulkAll_map (l : List (DataW H × List MemPlace)) : Rows.uptoBulkAll (l.map (·.1)) = (l.map fun x => Rows.uptoBulk x.1).sum := by
  induction l with
  | nil => simp [Rows.uptoBulkAll]
  | cons x l ih => simp [Rows.uptoBulkAll, ih]

/-- what a reading of type t, of bulk at most K, gives: a value that lies so, M of it and of how much was read -/
def Gives (K : Nat) (H : Type) (enc : TypeId × Value → H) (w : World) (sp : Nat → Bool) (hd : Bool) (t : TypeId) {α : Type} (r : Rd α) (M : α → Nat → Prop) : Prop :=
  ∀ (fuel : Nat) (cs : List Value) (x : DataW H × List MemPlace), DataW.trod enc Tryz.prog w 0 sp hd fuel t cs = some x → Bare w x.2 → Rows.uptoBulk x.1 ≤ K → ∃ v, r.ok 0 w cs v ∧ M v (Rows.uptoBulk x.1)

theorem cells_get {a : Addr} {n : Nat} {cs : List Value} (h : w.cells? 0 a n = some cs) : cs.length = n ∧ ∀ j (hj : j < cs.length), w.cell? (a.add j) = some cs[j] := by
  unfold World.cells? at h
  rw [if_pos (Nat.zero_le _)] at h
  have hl : cs.length = n := by simpa using mapM_some_length h
  refine ⟨hl, fun j hj => ?_⟩
  have := mapM_some_get h j j (by rw [List.getElem?_range (by omega)])
  rw [this, List.getElem?_eq_getElem hj]

theorem sum_ge {l : List Nat} {k : Nat} (h : ∀ x ∈ l, k ≤ x) : l.length * k ≤ l.sum := by
  induction l with
  | nil => simp
  | cons x l ih =>
    have h1 := h x (List.mem_cons_self ..)
    have h2 := ih (fun y hy => h y (List.mem_cons_of_mem _ hy))
    rw [List.length_cons, List.sum_cons, Nat.add_mul, Nat.one_mul]
    omega
theorem mem_le_sum {l : List Nat} {x : Nat} (h : x ∈ l) : x ≤ l.sum := by
  induction l with
  | nil => simp at h
  | cons y l ih =>
    rw [List.sum_cons]
    rcases List.mem_cons.1 h with rfl | h
    · omega
    · have := ih h; omega

/-- a slice of what is read so -/
theorem gives_slice {t e : TypeId} {α : Type} {r : Rd α} {M : α → Nat → Prop} (ht : Tryz.prog.underlying t = some (.slice e)) (hs : Tryz.prog.cellsOf e = r.size) (hp : 0 < r.size) {K : Nat} (hr : Gives K H enc w sp hd e r M) :
    ∀ (fuel : Nat) (cs : List Value) (x : DataW H × List MemPlace), DataW.trod enc Tryz.prog w 0 sp hd fuel t cs = some x → Bare w x.2 → Rows.uptoBulk x.1 ≤ K →
      ∃ (a : Option Addr) (n c : Nat) (vs : List α) (bs : List Nat), cs = [.slice a n c] ∧ Sl r 0 w a n c vs ∧ bs.length = vs.length ∧ (∀ i (h1 : i < vs.length) (h2 : i < bs.length), M vs[i] bs[i]) ∧ bs.sum + 1 ≤ Rows.uptoBulk x.1 := fun fuel cs x h hb hK => by
  rcases DataW.trod_slice ht h with ⟨rfl, rfl⟩ | ⟨a, n, c, elems, rest, m, _, rfl, rfl, _, hnc, hcm, hel, hget, _, _⟩
  · exact ⟨none, 0, 0, [], [], rfl, Sl.empty _ _ _ _, rfl, fun i h1 => absurd h1 (by simp), by simp [Rows.uptoBulk]⟩
  · rw [hs] at hget hb
    have hsum : (elems.map fun x => Rows.uptoBulk x.1).sum + 1 ≤ Rows.uptoBulk (.slice (elems.map (·.1)) (rest.map (·.1)) : DataW H) := by
      simp only [Rows.uptoBulk, bulkAll_map]
      omega
    have hread : ∀ i, i < n → ∃ csi v, w.cells? 0 (a.add (i * r.size)) r.size = some csi ∧ (∃ hi : i < elems.length, r.ok 0 w csi v ∧ M v (Rows.uptoBulk elems[i].1)) := fun i hi => by
      have h1 := hget i hi
      rw [List.getElem?_eq_getElem (by omega)] at h1
      obtain ⟨csi, h2, h3⟩ := Option.bind_eq_some_iff.1 h1
      have hbi : Bare w elems[i].2 := fun b o hm => hb b o (List.mem_append_right _ (List.mem_flatMap.2 ⟨elems[i], List.mem_append_left _ (List.getElem_mem _), hm⟩))
      have hKi : Rows.uptoBulk elems[i].1 ≤ K := Nat.le_trans (mem_le_sum (List.mem_map.2 ⟨elems[i], List.getElem_mem _, rfl⟩)) (Nat.le_trans (Nat.le_of_succ_le hsum) hK)
      obtain ⟨v, h4, h5⟩ := hr m csi _ h3 hbi hKi
      exact ⟨csi, v, h2, by omega, h4, h5⟩
    obtain ⟨vs, hvl, hvs⟩ := exists_list (α := α) (n := n) (fun i v => ∃ csi, w.cells? 0 (a.add (i * r.size)) r.size = some csi ∧ (∃ hi : i < elems.length, r.ok 0 w csi v ∧ M v (Rows.uptoBulk elems[i].1))) (fun i hi => by
      obtain ⟨csi, v, h1, h2⟩ := hread i hi
      exact ⟨v, csi, h1, h2⟩)
    have hspot : 0 < n → a.spot = none := fun h0 => by
      obtain ⟨csi, v, h1, _⟩ := hread 0 h0
      obtain ⟨h2, h3⟩ := cells_get h1
      have h4 := h3 0 (by omega)
      have h5 : (a.add (0 * r.size)).add 0 = a := by simp [Addr.add]
      rw [h5] at h4
      unfold World.cell? at h4
      split at h4
      · split at h4
        · simp at h4
        · rename_i hq; simpa using hq
      · simp at h4
    refine ⟨some a, n, c, vs, elems.map fun x => Rows.uptoBulk x.1, rfl, ⟨hvl, hnc, Nat.le_trans hcm (by decide), fun e => (by cases e), fun i hi => ?_⟩, by rw [List.length_map, hel, hvl], fun i h1 h2 => ?_, ?_⟩
    · obtain ⟨csi, h1, h2, h3, h4⟩ := hvs i (by omega)
      obtain ⟨h5, h6⟩ := cells_get h1
      obtain ⟨b, o, q⟩ := a
      have hq : q = none := hspot (by omega)
      subst hq
      refine ⟨b, o, csi, rfl, h3, fun j hj => ?_⟩
      have hadd : ((⟨b, o, none⟩ : Addr).add (i * r.size)).add j = ⟨b, o + i * r.size + j, none⟩ := by
        unfold Addr.add
        by_cases g1 : i * r.size = 0
        · rw [if_pos g1, g1]
          by_cases g2 : j = 0
          · rw [if_pos g2, g2]; rfl
          · rw [if_neg g2]; rfl
        · rw [if_neg g1]
          by_cases g2 : j = 0
          · rw [if_pos g2, g2]; rfl
          · rw [if_neg g2]
      have h7 := h6 j hj
      rw [hadd] at h7
      refine ⟨Nat.zero_le _, h7, hb b _ (List.mem_append_left _ ?_)⟩
      unfold MemPlace.row
      refine List.mem_map.2 ⟨i * r.size + j, List.mem_range.2 ?_, by simp [Nat.add_assoc]⟩
      have g3 : i + 1 ≤ elems.length + rest.length := by omega
      have g4 := Nat.mul_le_mul_right r.size g3
      rw [Nat.add_mul, Nat.one_mul] at g4
      omega
    · obtain ⟨csi, _, hi2, h3, h4⟩ := hvs i (by omega)
      rw [List.getElem_map]
      exact h4
    · exact hsum

theorem gives_u32 (K : Nat) : Gives K H enc w sp hd 126 Rd.u32 (fun _ b => 1 ≤ b) := fun fuel cs x h hb _ => by
  obtain ⟨n, rfl, rfl, hw⟩ := DataW.trod_int Tryz.underlying126 h
  obtain ⟨h1, h2⟩ := bounds_u32 hw
  refine ⟨n.toNat, ⟨?_, by omega⟩, ?_⟩
  · rw [show ((n.toNat : Nat) : Int) = n by omega]
  · simp [Rows.uptoBulk]

set_option maxRecDepth 100000 in
theorem gives_int (K : Nat) : Gives K H enc w sp hd 25 (rIntK K) (fun z b => nl z.natAbs + 3 ≤ b) := fun fuel cs x h hb hK => by
  obtain ⟨y0, y1, n, rfl, hl, h0, h1⟩ := trod_struct2 Tryz.underlying25 h
  have hl2 : cs.length = 2 := by rw [hl]; kernel_rfl
  have hc1 : Tryz.prog.cellsOf 4 = 1 := by kernel_rfl
  have hc2 : Tryz.prog.cellsOf 23 = 1 := by kernel_rfl
  match cs, hl2 with
  | [v0, v1], _ =>
    simp only [hc1, hc2, List.drop_zero, List.take_succ_cons, List.take_zero, List.drop_succ_cons] at h0 h1
    obtain ⟨b, hb0, hy0⟩ := DataW.trod_bool Tryz.underlying4 h0
    have hbk : Rows.uptoBulk (.agg [y0.1, y1.1] : DataW H) = Rows.uptoBulk y0.1 + Rows.uptoBulk y1.1 + 1 := by simp [Rows.uptoBulk, Rows.uptoBulkAll]
    have hy0b : Rows.uptoBulk y0.1 = 1 := by rw [hy0]; simp [Rows.uptoBulk]
    rw [hbk] at hK
    obtain ⟨a, m, c, l, bs, hcs, hsl, hbl, hM, hsum⟩ := gives_slice Tryz.underlying23 (r := Rd.u32) (by kernel_rfl) (by decide) (gives_u32 K) n [v1] y1 h1 hb.right (by omega)
    cases hb0
    cases hcs
    have hm : m ≤ bs.sum := by
      have := sum_ge (l := bs) (k := 1) (fun x hx => by
        obtain ⟨i, hi, rfl⟩ := List.getElem_of_mem hx
        exact hM i (by omega) hi)
      have := hsl.len
      omega
    refine ⟨ival b l, ⟨b, a, m, c, l, rfl, hsl, rfl, by omega⟩, ?_⟩
    have := nl_of hsl (Lib.hid (rfl : ival b l = ival b l))
    rw [hbk, hy0b]
    omega

theorem gives_row (K : Nat) : Gives K H enc w sp hd 30 (rIntK K).slice (fun zs b => 3 * zs.length + 1 ≤ b) := fun fuel cs x h hb hK => by
  obtain ⟨a, n, c, zs, bs, rfl, hsl, hbl, hM, hsum⟩ := gives_slice Tryz.underlying30 (r := rIntK K) (by kernel_rfl) (by show 0 < 2; decide) (gives_int K) fuel cs x h hb hK
  refine ⟨zs, ⟨a, n, c, rfl, hsl⟩, ?_⟩
  have := sum_ge (l := bs) (k := 3) (fun x hx => by
    obtain ⟨i, hi, rfl⟩ := List.getElem_of_mem hx
    have := hM i (by omega) hi
    omega)
  omega

/-- how long a matrix's parts are -/
def MatM (x : Int × List (List Int)) (b : Nat) : Prop := x.2.length + 1 ≤ b ∧ 2 * colsOf x.2 + 1 ≤ b ∧ nl x.1.natAbs + 1 ≤ b ∧ ∀ zs ∈ x.2, zs.length ≤ b
set_option maxRecDepth 100000 in
theorem gives_mat (K : Nat) : Gives K H enc w sp hd 28 (rMatK K) MatM := fun fuel cs x h hb hK => by
  obtain ⟨y0, y1, n, rfl, hl, h0, h1⟩ := trod_struct2 Tryz.underlying28 h
  have hl2 : cs.length = 3 := by rw [hl]; kernel_rfl
  have hc1 : Tryz.prog.cellsOf 25 = 2 := by kernel_rfl
  have hc2 : Tryz.prog.cellsOf 26 = 1 := by kernel_rfl
  match cs, hl2 with
  | [v0, v1, v2], _ =>
    simp only [hc1, hc2, List.drop_zero, List.take_succ_cons, List.take_zero, List.drop_succ_cons] at h0 h1
    have hbk : Rows.uptoBulk (.agg [y0.1, y1.1] : DataW H) = Rows.uptoBulk y0.1 + Rows.uptoBulk y1.1 + 1 := by simp [Rows.uptoBulk, Rows.uptoBulkAll]
    rw [hbk] at hK
    obtain ⟨d, ⟨b, a, m, c, l, hcs, hN, hv, hm⟩, hMd⟩ := gives_int K n [v0, v1] y0 h0 hb.left (by omega)
    obtain ⟨a2, n2, c2, zss, bs, hcs2, hsl, hbl, hM, hsum⟩ := gives_slice Tryz.underlying26 (r := (rIntK K).slice) (by kernel_rfl) (by show 0 < 1; decide) (gives_row K) n [v2] y1 h1 hb.right (by omega)
    cases hcs
    cases hcs2
    refine ⟨(d, zss), ⟨b, a, m, c, a2, n2, c2, rfl, l, hN, hv, hm, hsl⟩, ?_⟩
    have hrows := sum_ge (l := bs) (k := 1) (fun x hx => by
      obtain ⟨i, hi, rfl⟩ := List.getElem_of_mem hx
      have := hM i (by omega) hi
      omega)
    have hrow : ∀ zs ∈ zss, 3 * zs.length + 1 ≤ bs.sum := fun zs hz => by
      obtain ⟨i, hi, rfl⟩ := List.getElem_of_mem hz
      exact Nat.le_trans (hM i hi (by omega)) (mem_le_sum (List.getElem_mem _))
    rw [hbk]
    refine ⟨?_, ?_, ?_, fun zs hz => ?_⟩
    · show zss.length + 1 ≤ _
      omega
    · show 2 * colsOf zss + 1 ≤ _
      cases zss with
      | nil => show 2 * 0 + 1 ≤ _; omega
      | cons z zs => have := hrow z (List.mem_cons_self ..); show 2 * z.length + 1 ≤ _; omega
    · show nl d.natAbs + 1 ≤ _
      omega
    · have := hrow zs hz; omega

end
end Go.Proofs.YtbhenelehhiakaaGreat
