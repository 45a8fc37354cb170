/-
  A part.
-/
import Derived.Test.YtbhenelehhiakaaGreatSum4
import Derived.Test.YtbhenelehhiakaaGreatSum5
set_option linter.unusedVariables false
set_option linter.unusedSimpArgs false
namespace Go.Proofs.YtbhenelehhiakaaGreat
open Go.RowKit

theorem addOut_lt (s x y : Nat) : addOut s x y < 4294967296 := Nat.mod_lt _ (by decide)
theorem subOut_lt (s x y : Nat) : subOut s x y < 4294967296 := Nat.mod_lt _ (by decide)
theorem addNxt_le (s x y : Nat) (hx : x < 4294967296) (hy : y < 4294967296) (hs : s ≤ 1) : addNxt s x y ≤ 1 := by unfold addNxt; omega

theorem ret2_int {k k' : IntKind} {a b c d : Int} (h : a = b) (h' : c = d) : Ending.returned (.tuple #[.int k a, .int k' c]) = .returned (.tuple #[.int k b, .int k' d]) := by rw [h, h']

set_option maxHeartbeats 400000 in
theorem add32_any (x y s : Nat) (hx : x < 4294967296) (hy : y < 4294967296) (hs : s ≤ 1) (w : World) :
    Calls Tryz.prog 147 #[.int .u32 (x : Int), .int .u32 (y : Int), .int .u32 (s : Int)] w fun e w' => e = .returned (.tuple #[.int .u32 ((addOut s x y : Nat) : Int), .int .u32 ((addNxt s x y : Nat) : Int)]) ∧ w = w' := by
  go_enter Tryz.func147, Tryz.ntmps147
  go_wp2
  go_ret2
  exact ⟨ret2_int (by unfold addOut; omega) (by unfold addNxt; omega), rfl⟩

set_option maxHeartbeats 400000 in
theorem sub32_any (x y s : Nat) (hx : x < 4294967296) (hy : y < 4294967296) (hs : s ≤ 1) (w : World) :
    Calls Tryz.prog 169 #[.int .u32 (x : Int), .int .u32 (y : Int), .int .u32 (s : Int)] w fun e w' => e = .returned (.tuple #[.int .u32 ((subOut s x y : Nat) : Int), .int .u32 ((subNxt s x y : Nat) : Int)]) ∧ w = w' := by
  go_enter Tryz.func169, Tryz.ntmps169
  go_wp2
  go_ret2
  exact ⟨ret2_int (sub_int x y s hx hy hs) (borrow_bits x y s hx hy hs), rfl⟩

/-- a step of 'each': the state lies in block cb -/
def StepOf (P : Program) (f : Nat) (E : TypeId) (out nxt : Nat → Nat → Nat → Nat) : Prop :=
  ∀ (x y s cb : Nat) (w : World), x < 4294967296 → y < 4294967296 → s ≤ 1 → Blk w cb E (words [s]) →
    Calls P f #[.int .u32 (x : Int), .int .u32 (y : Int), .pointer (some ⟨cb, 0, none⟩)] w fun e w' => e = .returned (.int .u32 ((out s x y : Nat) : Int)) ∧ Blk w' cb E (words [nxt s x y]) ∧ w.grownBy w' (some cb)

theorem grownBy_trans {w w1 w2 : World} {r : Option Nat} (h : w.grownBy w1 r) (k : w1.grownBy w2 r) : w.grownBy w2 r :=
  ⟨k.os.trans h.os, k.tape.trans h.tape, k.output.trans h.output, Nat.le_trans h.size k.size, fun i hi hr => (k.block i (Nat.lt_of_lt_of_le hi h.size) hr).trans (h.block i hi hr)⟩
theorem Blk.grown {w w' : World} {b : Nat} {t : TypeId} {c : Array Value} {r : Option Nat} (h : Blk w b t c) (k : w.grownBy w' r) (hr : some b ≠ r) : Blk w' b t c := (k.block b h.lt hr).trans h
theorem grownBy_new_set {w w1 : World} {r : Option Nat} (h : w.grownBy w1 r) (b i : Nat) (v : Value) (hb : w.heap.size ≤ b) : w.grownBy (w1.setCell ⟨b, i, none⟩ v) r :=
  ⟨h.os, h.tape, h.output, by have := h.size; simp [World.setCell]; omega, fun k hk hr => (Below.heap_setCell _ _ _ _ (fun e => by simp at e; omega)).trans (h.block k hk hr)⟩
theorem grownBy_setCell (w : World) (b i : Nat) (v : Value) : w.grownBy (w.setCell ⟨b, i, none⟩ v) (some b) :=
  ⟨rfl, rfl, rfl, by simp [World.setCell], fun k _ hk => Below.heap_setCell _ _ _ _ (fun e => hk (by rw [e]))⟩

set_option maxHeartbeats 400000 in
theorem add1_any : StepOf Tryz.prog 146 126 addOut addNxt := by
  intro x y s cb w hx hy hs hb
  have hc : w.cell? ⟨cb, 0, none⟩ = some (.int .u32 (s : Int)) := hb.word (l := [s]) (i := 0) (by simp)
  have hf := hb.free 0
  have hlt := hb.lt
  go_enter Tryz.func146, Tryz.ntmps146
  go_wp2_with fail
  refine (add32_any x y s hx hy hs _).mono ?_
  rintro e w' ⟨rfl, rfl⟩
  go_wp2_with fail
  go_ret
  exact ⟨rfl, by have := hb.set 0 (.int .u32 ((addNxt s x y : Nat) : Int)); rw [words_set] at this; exact this, grownBy_setCell _ _ _ _⟩

set_option maxHeartbeats 400000 in
theorem less1_any : StepOf Tryz.prog 168 126 subOut subNxt := by
  intro x y s cb w hx hy hs hb
  have hc : w.cell? ⟨cb, 0, none⟩ = some (.int .u32 (s : Int)) := hb.word (l := [s]) (i := 0) (by simp)
  have hf := hb.free 0
  have hlt := hb.lt
  go_enter Tryz.func168, Tryz.ntmps168
  go_wp2_with fail
  refine (sub32_any x y s hx hy hs _).mono ?_
  rintro e w' ⟨rfl, rfl⟩
  go_wp2_with fail
  go_ret
  exact ⟨rfl, by have := hb.set 0 (.int .u32 ((subNxt s x y : Nat) : Int)); rw [words_set] at this; exact this, grownBy_setCell _ _ _ _⟩

set_option maxRecDepth 100000 in
set_option maxHeartbeats 1000000 in
theorem each_any (f : Nat) (out nxt : Nat → Nat → Nat → Nat) (hnxt : ∀ s x y, x < 4294967296 → y < 4294967296 → s ≤ 1 → nxt s x y ≤ 1) (hen : Enters Tryz.prog f) (hst : Hid (StepOf Tryz.prog f 126 out nxt))
    (B : Nat) (w0 w : World) (a a2 : Option Addr) (n c n2 c2 : Nat) (l l2 : Nt) (h : NatS B w0 a n c l) (h2 : NatS B w0 a2 n2 c2 l2) (hw0 : Below w0.heap.size w0 w) (cb : Nat) (hcb0 : w0.heap.size ≤ cb) (hcb : Blk w cb 126 (words [0])) (m : Nat) (hm : m = max n n2) (hsz : m ≤ 17592186044416) :
    Calls Tryz.prog 145 #[.slice a n c, .slice a2 n2 c2, .func (.func f) #[] #[.pointer (some ⟨cb, 0, none⟩)]] w fun e w' => e = .returned (.slice (some ⟨w.heap.size, 0, none⟩) m (m + 1)) ∧
      Blk w' w.heap.size 126 (words (outs out nxt 0 l l2 m ++ [0])) ∧ Blk w' cb 126 (words [stp nxt 0 l l2 m]) ∧ w.grownBy w' (some cb) := by
  have hen' : ∀ args w, (callFunc f args).run Tryz.prog w = .ok (.enter f args) w := hen
  clear hen
  have hmx : ∀ ts t w, (Builtin.max_ ts t #[.int .i64 (n : Int), .int .i64 (n2 : Int)]).run Tryz.prog w = .ok (.int .i64 (m : Int)) w := fun ts t w => by
    rw [run_max_int2]
    have e : (if (n2 : Int) > (n : Int) then (n2 : Int) else n) = (m : Int) := by split <;> omega
    rw [e]
  have hmk := fun w => make_words under_nat info_u32 m (m + 1) (by omega) (by omega) w
  have e1 : (((m + 1 : Nat) : Int)) = (m : Int) + 1 := by omega
  rw [e1] at hmk
  have HM := Lib.hid hm; clear hm
  clear e1
  go_enter Tryz.func145, Tryz.ntmps145
  go_wp2_with fail
  have hcbl := hcb.lt
  have hw0s := hw0.size
  have hlen := Lib.hid h.len
  have hlen2 := Lib.hid h2.len
  have hsm := h.small
  have hsm2 := h2.small
  go_loopw [23] (fun i wr => ∃ k : Nat, k ≤ m ∧ i = .int .i64 (k : Int) ∧ Hid (Blk wr w.heap.size 126 (words (outs out nxt 0 l l2 k ++ List.replicate (m + 1 - k) 0)) ∧ Blk wr cb 126 (words [stp nxt 0 l l2 k]) ∧ stp nxt 0 l l2 k ≤ 1) ∧ Hid (w.grownBy wr (some cb)) ∧ Hid (Below w0.heap.size w0 wr)) (fun i _ => m - (intOf i).toNat)
  case atStart =>
    exact ⟨0, Nat.zero_le _, rfl, Lib.hid ⟨Blk.new _ _ _, hcb.ext ((Below.refl _ _).alloc (Nat.le_refl _) _), Nat.zero_le _⟩, Lib.hid (World.grownBy_alloc _ _ _), Lib.hid (hw0.alloc hw0s _)⟩
  case round =>
    obtain ⟨k, hk, rfl, hb, hg, hB0⟩ := hrel
    by_cases hkm : k < m
    · have hx := hsm.get k
      have hy := hsm2.get k
      have hbb := hb.out
      have hlt1 : w.heap.size < wr.heap.size := hbb.1.lt
      -- the closure's call, at this round
      have hcall := Lib.hid (fun (w1 : World) (h1 : Blk w1 cb 126 (words [stp nxt 0 l l2 k])) => hst.out (l[k]?.getD 0) (l2[k]?.getD 0) (stp nxt 0 l l2 k) cb w1 hx hy hbb.2.2 h1)
      have hfill := Lib.hid (outs_fill out nxt 0 l l2 k (m + 1) (by omega))
      have hstp : Hid (stp nxt 0 l l2 (k + 1) = nxt (stp nxt 0 l l2 k) (l[k]?.getD 0) (l2[k]?.getD 0)) := Lib.hid rfl
      have hnx := hnxt (stp nxt 0 l l2 k) (l[k]?.getD 0) (l2[k]?.getD 0) hx hy hbb.2.2
      have hL : (words (outs out nxt 0 l l2 k ++ List.replicate (m + 1 - k) 0)).size = m + 1 := by rw [words_size, List.length_append, length_outs, List.length_replicate]; omega
      have hcx : k < n → ∃ b o, a = some ⟨b, o, none⟩ ∧ wr.cell? ⟨b, o + k, none⟩ = some (.int .u32 ((l[k]?.getD 0 : Nat) : Int)) := fun hkn => by
        obtain ⟨b, o, h1, _, h3, h4, _⟩ := h.pos (by omega)
        exact ⟨b, o, h1, (hB0.out.cell (p := ⟨b, o + k, none⟩) h3).trans (h4 k hkn)⟩
      have hcy : k < n2 → ∃ b o, a2 = some ⟨b, o, none⟩ ∧ wr.cell? ⟨b, o + k, none⟩ = some (.int .u32 ((l2[k]?.getD 0 : Nat) : Int)) := fun hkn => by
        obtain ⟨b, o, h1, _, h3, h4, _⟩ := h2.pos (by omega)
        exact ⟨b, o, h1, (hB0.out.cell (p := ⟨b, o + k, none⟩) h3).trans (h4 k hkn)⟩
      have hx0 : ¬ k < n → l[k]?.getD 0 = 0 := fun hkn => by rw [List.getElem?_eq_none (by rw [hlen.out]; omega)]; rfl
      have hy0 : ¬ k < n2 → l2[k]?.getD 0 = 0 := fun hkn => by rw [List.getElem?_eq_none (by rw [hlen2.out]; omega)]; rfl
      generalize stp nxt 0 l l2 k = s at *
      generalize hL1 : outs out nxt 0 l l2 k ++ List.replicate (m + 1 - k) 0 = L at *
      clear hL1
      generalize l[k]?.getD 0 = x at *
      generalize l2[k]?.getD 0 = y at *
      have hcell : ∀ w1 : World, Blk w1 w.heap.size 126 (words L) → w1.cell? ⟨w.heap.size, k, none⟩ = some (.int .u32 ((L[k]?.getD 0 : Nat) : Int)) ∧ w1.frozen? ⟨w.heap.size, k, none⟩ = false := fun w1 h1 =>
        ⟨h1.word (by rw [words_size] at hL; omega), h1.free k⟩
      have HC := Lib.hid hcell
      have hcb' : w0.heap.size ≤ cb := hcb0
      have fin : ∀ w1 : World, Blk w1 w.heap.size 126 (words L) → Blk w1 cb 126 (words [nxt s x y]) → wr.grownBy w1 (some cb) →
          ∃ j : Nat, j ≤ m ∧ Value.int .i64 ((k : Int) + 1) = .int .i64 (j : Int) ∧ Hid (Blk (w1.setCell ⟨w.heap.size, k, none⟩ (.int .u32 ((out s x y : Nat) : Int))) w.heap.size 126 (words (outs out nxt 0 l l2 j ++ List.replicate (m + 1 - j) 0)) ∧ Blk (w1.setCell ⟨w.heap.size, k, none⟩ (.int .u32 ((out s x y : Nat) : Int))) cb 126 (words [stp nxt 0 l l2 j]) ∧ stp nxt 0 l l2 j ≤ 1) ∧ Hid (w.grownBy (w1.setCell ⟨w.heap.size, k, none⟩ (.int .u32 ((out s x y : Nat) : Int))) (some cb)) ∧ Hid (Below w0.heap.size w0 (w1.setCell ⟨w.heap.size, k, none⟩ (.int .u32 ((out s x y : Nat) : Int)))) := fun w1 h1 h2 h3 => by
        refine ⟨k + 1, by omega, by go_num, Lib.hid ⟨?_, ?_, ?_⟩, Lib.hid ?_, Lib.hid ?_⟩
        · have := h1.set k (.int .u32 ((out s x y : Nat) : Int))
          rw [words_set, hfill.out] at this
          exact this
        · rw [hstp.out]
          exact h2.below ((Below.refl w.heap.size w1).setCell (p := ⟨w.heap.size, k, none⟩) (Nat.le_refl _) _) hcbl
        · rw [hstp.out]; exact hnx
        · exact grownBy_new_set (grownBy_trans hg.out h3) _ _ _ (Nat.le_refl _)
        · exact (hB0.out.grown h3 hB0.out.size (fun j e => by cases e; exact hcb')).setCell (by show w0.heap.size ≤ w.heap.size; omega) _
      clear hL hcell hnx
      by_cases hkn : k < n
      · obtain ⟨b, o, rfl, hcx⟩ := hcx hkn
        by_cases hkn2 : k < n2
        · obtain ⟨b2, o2, rfl, hcy⟩ := hcy hkn2
          clear hx0 hy0
          go_wp2_with fail
          refine (hcall.out wr hbb.2.1).mono ?_
          rintro e w1 ⟨rfl, hb1, hg1⟩
          obtain ⟨hcl, hfr⟩ := HC.out w1 (hbb.1.grown hg1 (by simp; omega))
          have HB1 := Lib.hid (hbb.1.grown hg1 (by simp; omega))
          have HG1 := Lib.hid hg1
          have HBc := Lib.hid hb1
          clear hb1 hg1
          go_wp2_with fail
          go_roundw
          case rel => exact fin w1 HB1.out HBc.out HG1.out
          case measure => simp [intOf]; omega
        · obtain rfl := hy0 hkn2
          clear hx0 hy0 hcy
          go_wp2_with fail
          refine (hcall.out wr hbb.2.1).mono ?_
          rintro e w1 ⟨rfl, hb1, hg1⟩
          obtain ⟨hcl, hfr⟩ := HC.out w1 (hbb.1.grown hg1 (by simp; omega))
          have HB1 := Lib.hid (hbb.1.grown hg1 (by simp; omega))
          have HG1 := Lib.hid hg1
          have HBc := Lib.hid hb1
          clear hb1 hg1
          go_wp2_with fail
          go_roundw
          case rel => exact fin w1 HB1.out HBc.out HG1.out
          case measure => simp [intOf]; omega
      · obtain rfl := hx0 hkn
        clear hx0 hcx
        by_cases hkn2 : k < n2
        · obtain ⟨b2, o2, rfl, hcy⟩ := hcy hkn2
          clear hy0
          go_wp2_with fail
          refine (hcall.out wr hbb.2.1).mono ?_
          rintro e w1 ⟨rfl, hb1, hg1⟩
          obtain ⟨hcl, hfr⟩ := HC.out w1 (hbb.1.grown hg1 (by simp; omega))
          have HB1 := Lib.hid (hbb.1.grown hg1 (by simp; omega))
          have HG1 := Lib.hid hg1
          have HBc := Lib.hid hb1
          clear hb1 hg1
          go_wp2_with fail
          go_roundw
          case rel => exact fin w1 HB1.out HBc.out HG1.out
          case measure => simp [intOf]; omega
        · exact absurd HM.out (by omega)
    · obtain rfl : k = m := by omega
      go_wp2_with fail
      go_ret
      exact ⟨rfl, by have := hb.out.1; rwa [show k + 1 - k = 1 from by omega] at this, hb.out.2.1, hg.out⟩
theorem natS_of_owns {w : World} {base g n c : Nat} {E : TypeId} {l : List Nat} (h : w.ownsRow base E 1 (.slice (some ⟨g, 0, none⟩) n c) n (l.map fun x : Nat => Value.int .u32 (x : Int))) (hs : Small l) : NatS base w (some ⟨g, 0, none⟩) n c l := by
  obtain ⟨h1, h2⟩ := h
  rcases h2 with ⟨h2, _⟩ | ⟨g', cap, cur, h2, h3, h4, h5, h6, h7, h8⟩
  · cases h2
  · cases h2
    have hl : l.length = n := by simpa using h1
    have hb : Blk w g E cur := h4
    have hcell : ∀ i, i < n → cur[i]? = some (.int .u32 ((l[i]?.getD 0 : Nat) : Int)) := fun i hi => by
      have e : (cur.toList.take (n * 1))[i]? = cur[i]? := by
        rw [List.getElem?_take_of_lt (by omega)]; simp
      rw [← e, h8, List.getElem?_map, List.getElem?_eq_getElem (by omega)]
      rfl
    refine natS_mk hl h5 (by unfold maxLen at h6; omega) hs h3 (fun i hi => ?_) (fun i hi => ?_)
    · simpa using hb.cell (hcell i hi)
    · simpa using hb.free i

theorem owns_of_blk {w : World} {base b n c : Nat} {E : TypeId} {l m : List Nat} (h : Blk w b E (words (l ++ m))) (hb : base ≤ b) (hl : l.length = n) (hc : (l ++ m).length = c) (hm : c ≤ 9223372036854775807) : w.ownsRow base E 1 (.slice (some ⟨b, 0, none⟩) n c) n (l.map fun x : Nat => Value.int .u32 (x : Int)) := by
  refine ⟨by simp [hl], Or.inr ⟨b, c, words (l ++ m), rfl, hb, h, by rw [← hl, ← hc, List.length_append]; omega, by unfold maxLen; omega, by rw [words_size, hc]; omega, ?_⟩⟩
  rw [Nat.mul_one, ← hl]
  simp [words]

theorem RNat.intro {w w' : World} {x n c : Nat} {a : Option Addr} (h : NatS w.heap.size w' a n c (limbs x)) (hE : Ext w w') : RNat w x (.returned (.slice a n c)) w' := ⟨a, n, c, rfl, h, hE⟩

theorem below_of_grown {w w' : World} {r : Option Nat} {n : Nat} (h : w.grownBy w' r) (hn : n ≤ w.heap.size) (hr : ∀ k, r = some k → n ≤ k) : Below n w w' := (Below.refl n w).grown h hn hr

end Go.Proofs.YtbhenelehhiakaaGreat
