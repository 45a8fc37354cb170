/-
  A part of the proof.
-/
import Derived.Test.YtpoocfmphcgmkaaGreatProg
import Derived.WalkKit
import Derived.Deep.LoopGhost
import Derived.Deep.RegionLaw
import Derived.Lib.Walk
import Derived.Lib.SliceRun
import Derived.Lib.LazyBuf
import Derived.Shelf.RegionOpenPlain
import Derived.Sort.WalkB12
import Derived.Test.YtpoocfmphcgmkaaGreatBre24
set_option linter.unusedVariables false
set_option linter.unusedSimpArgs false
set_option linter.unusedSimpArgs false
set_option linter.unusedVariables false
set_option linter.unusedSimpArgs false
set_option linter.unusedVariables false
namespace Go.Proofs
open Go.RowKit Go.Lib Go.Sort Go.Pm

theorem zeroCells_len (z : Array Value) (n : Nat) : (Builtin.zeroCells z n).toList.length = n * z.size := by simp [Builtin.zeroCells, Nat.mul_comm]
theorem run_clear_two {P : Program} {n : Nat} (w : World) (t e ty : TypeId) (z : Value) (ht : P.underlying t = some (.slice e)) (hv : ∀ w, (zeroValue e).run P w = .ok z w) (hz : z.cells.size = 2) (h1 : ∀ u ∈ (Builtin.zeroCells z.cells n).toList, u.oneCell' = true) (b o c : Nat) (hn : 0 < n)
    (hc : ∀ j, j < n * 2 → (w.cell? ⟨b, o + j, none⟩).isSome = true) (hf : ∀ j, j < n * 2 → w.frozen? ⟨b, o + j, none⟩ = false) :
    (Builtin.clear_ #[t] ty #[.slice (some ⟨b, o, none⟩) n c]).run P w = .ok (.tuple #[]) (w.setCells b o (Builtin.zeroCells z.cells n).toList) := by
  have hl := zeroCells_len z.cells n
  rw [hz] at hl
  have hst := run_storeCells_cells (P := P) b o (Builtin.zeroCells z.cells n).toList 0 w (by rw [hl]; simpa using hc) (by rw [hl]; simpa using hf) h1
  simp only [Nat.add_zero] at hst
  obtain ⟨m, rfl⟩ : ∃ m, n = m + 1 := ⟨n - 1, by omega⟩
  simp [Builtin.clear_, run_underlying ht, hv, hst]
/-- one block is turned, nothing else -/
structure Turn (b : Nat) (w w' : World) : Prop where
  os : w'.os = w.os
  tape : w'.tape = w.tape
  output : w'.output = w.output
  size : w'.heap.size = w.heap.size
  blk : ∀ x, x ≠ b → w'.heap[x]? = w.heap[x]?
theorem Turn.refl (b : Nat) (w : World) : Turn b w w := ⟨rfl, rfl, rfl, rfl, fun _ _ => rfl⟩
theorem Turn.trans {b : Nat} {u v w : World} (h : Turn b u v) (k : Turn b v w) : Turn b u w := ⟨k.os.trans h.os, k.tape.trans h.tape, k.output.trans h.output, k.size.trans h.size, fun x hx => (k.blk x hx).trans (h.blk x hx)⟩
theorem Turn.drew (b : Nat) (w : World) : Turn b w w.drew := ⟨rfl, rfl, rfl, rfl, fun _ _ => rfl⟩
theorem Turn.set (b o : Nat) (v : Value) (w : World) : Turn b w (w.setCell ⟨b, o, none⟩ v) := by
  refine ⟨?_, ?_, ?_, ?_, fun x hx => ?_⟩
  all_goals
    unfold World.setCell
    split
    all_goals first | rfl | simp
  all_goals simp [Array.getElem?_modify, Ne.symm hx]
theorem Turn.cells (b : Nat) : ∀ (vs : List Value) (o : Nat) (w : World), Turn b w (w.setCells b o vs)
  | [], _, w => .refl b w
  | v :: r, o, w => (Turn.set b o v w).trans (Turn.cells b r (o + 1) _)

set_option maxHeartbeats 4000000 in
set_option maxRecDepth 1000000 in
theorem del_walk (b cap i j L : Nat) (t : TypeId) (f : Nat → Value) (w : World) (hb : w.rowIs b t (cap * 2) f) (hL : L ≤ cap) (hm : cap ≤ 9223372036854775807) (hij : i < j) (hj : j ≤ L) (h1 : ∀ x, x < L * 2 → (f x).oneCell' = true) :
    Calls Tryz.prog 188 #[.slice (some ⟨b, 0, none⟩) L cap, .int .i64 i, .int .i64 j] w fun e w' => e = .returned (.slice (some ⟨b, 0, none⟩) (L - (j - i)) cap) ∧ Turn b w w' ∧
      ∃ g, w'.rowIs b t (cap * 2) g ∧ ∀ x, x < (L - (j - i)) * 2 → g x = if x < i * 2 then f x else f (x + (j - i) * 2) := by
  obtain ⟨news, hnews⟩ : ∃ news, news = (List.range ((L - j) * 2)).map fun x => f (j * 2 + x) := ⟨_, rfl⟩
  have hlen : news.length = (L - j) * 2 := by rw [hnews]; simp
  have hcell : ∀ (u : World) (g : Nat → Value), u.rowIs b t (cap * 2) g → ∀ x, x < cap * 2 → u.cell? ⟨b, x, none⟩ = some (g x) ∧ u.frozen? ⟨b, x, none⟩ = false := fun u g ⟨c, h1, h2, h3⟩ x hx => by
    have := rd_row h1 (h3 x hx)
    exact ⟨this.1, this.2⟩
  have hb0 : w.drew.rowIs b t (cap * 2) f := hb
  obtain ⟨A, hA, hsrc⟩ : ∃ A : Addr, (if cap = j then some (⟨b, 0, none⟩ : Addr) else some ⟨b, j * 2, none⟩) = some A ∧ Hid (∀ x u, news[x]? = some u → w.drew.cell? (A.add x) = some u) := by
    by_cases h : cap = j
    · refine ⟨⟨b, 0, none⟩, by simp [h], fun x u hu => ?_⟩
      have h0 : news.length = 0 := by rw [hlen]; omega
      rw [List.length_eq_zero_iff.1 h0] at hu
      simp at hu
    · refine ⟨⟨b, j * 2, none⟩, by simp [h], fun x u hu => ?_⟩
      have hx : x < (L - j) * 2 := by
        have := (List.getElem?_eq_some_iff.1 hu).1
        rwa [hlen] at this
      rw [hnews, List.getElem?_map, List.getElem?_range hx] at hu
      rw [Addr.add_lit, ← Option.some.inj hu]
      exact (hcell _ _ hb0 _ (by omega)).1
  have s1 : Hid (news.length = (L - j) * 2) := hlen
  have s2 : Hid (∀ u ∈ news, u.oneCell' = true) := by
    intro u hu
    rw [hnews] at hu
    obtain ⟨x, hx, rfl⟩ := List.mem_map.1 hu
    have := List.mem_range.1 hx
    exact h1 _ (by omega)
  have s3 : Hid (∀ x, x < news.length → (w.drew.cell? ⟨b, 0 + i * 2 + x, none⟩).isSome = true ∧ w.drew.frozen? ⟨b, 0 + i * 2 + x, none⟩ = false) := by
    intro x hx
    rw [hlen] at hx
    obtain ⟨g1, g2⟩ := hcell _ _ hb0 (0 + i * 2 + x) (by omega)
    exact ⟨by rw [g1]; rfl, g2⟩
  obtain ⟨W1, hW1⟩ : ∃ W1, W1 = w.drew.setCells b (0 + i * 2) news := ⟨_, rfl⟩
  obtain ⟨g1, hg1, hg1'⟩ : ∃ g1, W1.rowIs b t (cap * 2) g1 ∧ ∀ x, x < (L - (j - i)) * 2 → g1 x = if x < i * 2 then f x else f (x + (j - i) * 2) := by
    refine ⟨_, by rw [hW1]; exact rowIs_setCells news (0 + i * 2) _ f hb0, fun x hx => ?_⟩
    by_cases h : x < i * 2
    · rw [if_pos h, if_neg (by omega)]
    · rw [if_neg h, if_pos (by rw [hlen]; omega), hnews, List.getElem?_map, List.getElem?_range (by omega)]
      show f _ = _
      congr 1
      omega
  have hT1 : Turn b w W1 := by rw [hW1]; exact (Turn.drew b w).trans (Turn.cells b _ _ _)
  obtain ⟨zs, hzs⟩ : ∃ zs, zs = (Builtin.zeroCells (Value.agg #[.bool false, .slice none 0 0]).cells (L - (i + (L - j)))).toList := ⟨_, rfl⟩
  have hcl : ∀ ty, (Builtin.clear_ #[27] ty #[.slice (some ⟨b, (i + (L - j)) * 2, none⟩) (L - (i + (L - j))) (cap - (i + (L - j)))]).run Tryz.prog W1 = .ok (.tuple #[]) (W1.setCells b ((i + (L - j)) * 2) zs) :=
    fun ty => by
      rw [hzs]
      exact run_clear_two W1 _ _ ty _ Tryz.underlying27 Tryz.zeroValue26 rfl (fun u hu => by
        simp [Builtin.zeroCells] at hu
        obtain ⟨x, hx, rfl⟩ := hu
        have : x % 2 = 0 ∨ x % 2 = 1 := by omega
        rcases this with e | e <;> simp [Value.cells, e, Value.oneCell']) b ((i + (L - j)) * 2) _ (by omega)
        (fun x hx => by rw [(hcell _ _ hg1 _ (by omega)).1]; rfl) (fun x hx => (hcell _ _ hg1 _ (by omega)).2)
  have hfin : Aside (Turn b w (W1.setCells b ((i + (L - j)) * 2) zs) ∧ ∃ g, (W1.setCells b ((i + (L - j)) * 2) zs).rowIs b t (cap * 2) g ∧ ∀ x, x < (L - (j - i)) * 2 → g x = if x < i * 2 then f x else f (x + (j - i) * 2)) := by
    refine ⟨hT1.trans (Turn.cells b _ _ _), _, rowIs_setCells zs _ _ g1 hg1, fun x hx => ?_⟩
    rw [if_neg (by omega)]
    exact hg1' x hx
  have hW : Hid (W1 = w.drew.setCells b (0 + i * 2) news) := hW1
  have hic : i ≤ cap := by omega
  have hjc : j ≤ cap := by omega
  have hne : ¬ (i : Int) = j := by omega
  clear hW1 hT1 hg1 hg1' g1 hcell hb hb0 hnews hlen h1 hzs
  have mixed : Tryz.prog.follows .mixedOrders = true := by kernel_rfl
  go_enter Tryz.func188, Tryz.ntmps188
  go_wp2_with fail
  go_region_law_o (refine step_append_room rfl (.tmp 22) (.tmp 25) 27 rfl 26 _ 2 Tryz.underlying27 rfl rfl b 0 i cap (by simp [Act.eval, Act.put]) A (L - j) (cap - j) news (by simp [Act.eval, Act.put]) s1.out hsrc.out s2.out (by omega) s3.out ?_; rw [← hW.out])
  go_wp2
  go_ret
  exact ⟨by rw [show L - (j - i) = i + (L - j) by omega]; rfl, hfin.out.1, hfin.out.2⟩

theorem del_call {id ver nid i j el : Nat} {es : List (List D)} (hij : i < j) (hj : j ≤ es.length) :
    HCall Tryz.prog 188 [.sr id ver, .d (.v (.int .i64 i)), .d (.v (.int .i64 j))] [(id, .arr ⟨el, 2, ver, false, es⟩)] nid (.sr id (ver + 1)) [(id, .arr ⟨el, 2, ver + 1, false, es.take i ++ es.drop j⟩)] where
  enters args w := by exact Tryz.call188 args w
  calls E hg loc kn w vs hm hh hn hl hrep := by
    have hi : hg id = some (.arr ⟨el, 2, ver, false, es⟩) := hh id _ (by simp [hget])
    have hkn : kn id := (hm.objs id _ hi).1
    obtain ⟨_, hA⟩ := hm.arr hi
    obtain ⟨b, cap, hloc⟩ := ArrAt.at hA (i := 0) (by show 0 < es.length; omega)
    rw [hloc] at hA
    obtain ⟨c, hc1, hc2, hc3, hc4, hc5, hc6⟩ := hA
    have hc2 : c.size = cap * 2 := hc2
    have hc3 : es.length ≤ cap := hc3
    have hc5 : ∀ e ∈ es, e.length = 2 := hc5
    obtain ⟨f, hf⟩ : ∃ f : Nat → Value, f = fun x => c.getD x undef := ⟨_, rfl⟩
    have hcf : ∀ x, x < cap * 2 → c[x]? = some (f x) := fun x hx => by
      rw [hf, Array.getElem?_eq_getElem (by omega)]
      simp [Array.getD, show x < c.size by omega]
    have hrow : w.rowIs b el (cap * 2) f := ⟨c, hc1, hc2, hcf⟩
    have hel : ∀ x, x < es.length * 2 → ∃ e d, es[x / 2]? = some e ∧ e[x % 2]? = some d := fun x hx => by
      have h1 : x / 2 < es.length := by omega
      have h2 := hc5 _ (List.getElem_mem h1)
      exact ⟨es[x / 2], (es[x / 2])[x % 2]'(by omega), List.getElem?_eq_getElem h1, List.getElem?_eq_getElem _⟩
    have hone : ∀ x, x < es.length * 2 → (f x).oneCell' = true := fun x hx => by
      obtain ⟨e, d, h1, h2⟩ := hel x hx
      obtain ⟨u, h3, h4, _⟩ := hc6 _ _ e d h1 h2
      have h3 : c[x / 2 * 2 + x % 2]? = some u := h3
      rw [show x / 2 * 2 + x % 2 = x by omega, hcf x (by omega)] at h3
      cases h3
      exact h4
    obtain ⟨v0, v1, v2, rfl⟩ : ∃ v0 v1 v2, vs = #[v0, v1, v2] := by
      match vs, hl with
      | ⟨[a, b, c]⟩, _ => exact ⟨a, b, c, rfl⟩
    have h0 := hrep 0 _ v0 rfl rfl
    have h1 := hrep 1 _ v1 rfl rfl
    have h2 := hrep 2 _ v2 rfl rfl
    have e1 : v1 = .int .i64 i := by cases h1 with | d h => cases h; rfl
    have e2 : v2 = .int .i64 j := by cases h2 with | d h => cases h; rfl
    have e0 : v0 = .slice (some ⟨b, 0, none⟩) es.length cap := by
      cases h0 with
      | sr _ _ _ h =>
        have := h _ hi rfl
        rw [hloc] at this
        exact this
    subst e0 e1 e2
    refine (del_walk b cap i j es.length el f w hrow hc3 hc4 hij hj hone).mono fun e w' ⟨he, hT, g, ⟨c', hg1, hg2, hg3⟩, hg4⟩ => ?_
    have hlen : (es.take i ++ es.drop j).length = es.length - (j - i) := by simp; omega
    have htr := Tr.one hm id (.arr ⟨el, 2, ver + 1, false, es.take i ++ es.drop j⟩) (.pl b cap) w' (by rw [hT.size]; exact Nat.le_refl _) hT.os hT.tape hT.output (fun x hx => .inl ⟨by simp [hi], by rw [hloc]; exact hx⟩)
      (fun x hx hno => hT.blk x (fun e => hno ⟨by simp [hi], by rw [hloc]; exact e⟩)) (fun x o v _ hx _ hno => absurd ⟨id, _, hi, hx, fun hf => by cases hf⟩ hno) (fun x hx _ => by cases hx)
      (fun a' ha _ => by cases ha; exact ⟨_, hi, fun hv => absurd hv (by simp), by simp⟩) (fun T hT _ => by cases hT)
      (fun hC hR => by
        refine ⟨(show 0 < 2 by decide), c', hg1, hg2, by show (es.take i ++ es.drop j).length ≤ cap; omega, hc4, fun e he => ?_, fun x y e d hx hy => ?_⟩
        · rcases List.mem_append.1 he with h | h
          · exact hc5 e (List.mem_of_mem_take h)
          · exact hc5 e (List.mem_of_mem_drop h)
        · have hx : (es.take i ++ es.drop j)[x]? = some e := hx
          have hxl : x < es.length - (j - i) := by rw [← hlen]; exact (List.getElem?_eq_some_iff.1 hx).1
          have hel2 : e.length = 2 := by
            rcases List.mem_append.1 (List.mem_of_getElem? hx) with h | h
            · exact hc5 e (List.mem_of_mem_take h)
            · exact hc5 e (List.mem_of_mem_drop h)
          have hyl : y < 2 := by rw [← hel2]; exact (List.getElem?_eq_some_iff.1 hy).1
          have hgx : c'[x * 2 + y]? = some (if x * 2 + y < i * 2 then f (x * 2 + y) else f (x * 2 + y + (j - i) * 2)) := by
            rw [hg3 _ (by omega), hg4 _ (by omega)]
          refine ⟨_, hgx, ?_⟩
          by_cases hxi : x < i
          · rw [if_pos (by omega)]
            rw [List.getElem?_append_left (by simp; omega), List.getElem?_take_of_lt hxi] at hx
            obtain ⟨u, h3, h4, h5⟩ := hc6 x y e d hx hy
            have h3 : c[x * 2 + y]? = some u := h3
            rw [hcf _ (by omega)] at h3
            cases h3
            exact ⟨h4, h5.le hC⟩
          · rw [if_neg (by omega)]
            rw [List.getElem?_append_right (by simp; omega), List.getElem?_drop] at hx
            have e3 : (es.take i).length = i := by simp; omega
            rw [e3] at hx
            obtain ⟨u, h3, h4, h5⟩ := hc6 _ y e d hx hy
            have h3 : c[(j + (x - i)) * 2 + y]? = some u := h3
            rw [show (j + (x - i)) * 2 + y = x * 2 + y + (j - i) * 2 by omega, hcf _ (by omega)] at h3
            cases h3
            exact ⟨h4, h5.le hC⟩)
    refine ⟨_, _, _, he, htr, .sr (.inr rfl) rfl (fun a ha => ?_) (fun a ha _ => ?_), fun x hx => ?_⟩
    · simp only [upd, if_true] at ha; cases ha; exact Nat.le_refl _
    · simp only [upd, if_true] at ha
      cases ha
      simp only [if_true]
      rw [hlen]
    · rcases hx with hx | hx
      · exact .inl hx
      · subst hx; exact .inl hkn
end Go.Proofs
