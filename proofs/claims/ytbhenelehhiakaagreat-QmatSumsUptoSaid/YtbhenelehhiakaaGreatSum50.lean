/-
  The law QmatSums: its first region.
-/
import Derived.Test.YtbhenelehhiakaaGreatSum49
import Derived.Test.YtbhenelehhiakaaGreatSum2
import Derived.Test.YtbhenelehhiakaaGreatSum29
set_option linter.unusedVariables false
set_option linter.unusedSimpArgs false
namespace Go.Proofs.YtbhenelehhiakaaGreat
open Go.RowKit

noncomputable def sumsReg (k : Nat) : Code := (Tryz.f6.body.bind (regAt k)).getD .skip
set_option maxRecDepth 1000000 in
set_option maxHeartbeats 40000000 in
theorem sums_r1 (K : Nat) (hK : K ≤ 1099511627776) (w W : World) (b : Bool) (a a2 : Option Addr) (n c n2 c2 : Nat) (x : Int × List (List Int)) (l : Nt) (xss : List (List It)) (HX : Hid (RawM K w b a n c a2 n2 c2 x.1 x.2 l xss)) (HRX : Hid (∀ zs ∈ x.2, zs.length ≤ 1099511627776)) (hn2 : n2 ≤ 1099511627776) (b' : Bool) (a' a2' : Option Addr) (n' c' n2' c2' : Nat) (y : Int × List (List Int)) (l' : Nt) (yss : List (List It)) (HY : Hid (RawM K w b' a' n' c' a2' n2' c2' y.1 y.2 l' yss)) (HRY : Hid (∀ zs ∈ y.2, zs.length ≤ 1099511627776)) (hn2' : n2' ≤ 1099511627776) (HP0 : Hid (Blk W w.heap.size 28 #[.bool b, .slice a n c, .slice a2 n2 c2])) (HP1 : Hid (Blk W (w.heap.size + 1) 28 #[.bool b', .slice a' n' c', .slice a2' n2' c2'])) (HEW : Hid (Ext w W))
    (x0 x1 x2 x6 x7 x8 x9 x10 x11 x12 x13 x14 x15 x16 x17 x18 x19 x20 x21 x22 x23 x24 x25 x26 x27 x28 x29 x30 x31 x32 x33 x34 x35 x36 x37 x38 x39 x40 x41 x42 x43 x44 x45 x46 x47 x48 x49 x50 x51 x52 x53 x54 x55 x56 x57 x58 x59 x60 x61 x62 x63 x64 x65 x66 x67 x68 x69 x70 x71 x72 x73 x74 x75 x76 x77 x78 x79 x80 x81 x82 x83 x84 x85 x86 x87 x88 x89 x90 x91 x92 x93 x94 x95 x96 x97 x98 x99 x100 x101 x102 x103 x104 x105 x106 x107 x108 x109 x110 x111 x112 x113 x114 x115 x116 x117 x118 x119 x120 x121 x122 x123 x124 x125 x126 x127 x128 x129 x130 x131 x132 x133 x134 x135 x136 x137 x138 x139 x140 x141 x142 x143 x144 x145 x146 x147 x148 x149 x150 x151 x152 x153 x154 x155 : Value) (Q : Exit → Act → World → Prop)
    (hQ : ∀ (q1 q2 : Nat) (a3 : Option Addr) (c3 : Nat) (a4 : Option Addr) (c4 : Nat) (a5 : Option Addr) (c5 : Nat) (a6 : Option Addr) (c6 : Nat) (v22 v23 v24 v25 : Value) (w' : World), q1 ≠ q2 → Hid (Blk w' q1 28 #[.bool b, .slice a3 n c3, .slice a4 n2 c4]) → Hid (Blk w' q2 28 #[.bool b', .slice a5 n' c5, .slice a6 n2' c6]) → Hid (RawM K w' b a3 n c3 a4 n2 c4 x.1 x.2 l xss) → Hid (RawM K w' b' a5 n' c5 a6 n2' c6 y.1 y.2 l' yss) → Hid (Ext W w') → Q .normal { tmps := #[x0, x1, x2, .pointer (some ⟨w.heap.size, 0, none⟩), .pointer (some ⟨w.heap.size + 1, 0, none⟩), .pointer (some ⟨w.heap.size + 1 + 1, 0, none⟩), x6, .pointer (some ⟨q1, 0, none⟩), .pointer (some ⟨q2, 0, none⟩), x9, x10, x11, x12, x13, x14, x15, x16, x17, x18, x19, x20, x21, v22, v23, v24, v25, x26, x27, x28, x29, x30, x31, x32, x33, x34, x35, x36, x37, x38, x39, x40, x41, x42, x43, x44, x45, x46, x47, x48, x49, x50, x51, x52, x53, x54, x55, x56, x57, x58, x59, x60, x61, x62, x63, x64, x65, x66, x67, x68, x69, x70, x71, x72, x73, x74, x75, x76, x77, x78, x79, x80, x81, x82, x83, x84, x85, x86, x87, x88, x89, x90, x91, x92, x93, x94, x95, x96, x97, x98, x99, x100, x101, x102, x103, x104, x105, x106, x107, x108, x109, x110, x111, x112, x113, x114, x115, x116, x117, x118, x119, x120, x121, x122, x123, x124, x125, x126, x127, x128, x129, x130, x131, x132, x133, x134, x135, x136, x137, x138, x139, x140, x141, x142, x143, x144, x145, x146, x147, x148, x149, x150, x151, x152, x153, x154, x155], defers := [] } w') :
    Code.wp Tryz.prog (sumsReg 1) Q { tmps := #[x0, x1, x2, .pointer (some ⟨w.heap.size, 0, none⟩), .pointer (some ⟨w.heap.size + 1, 0, none⟩), .pointer (some ⟨w.heap.size + 1 + 1, 0, none⟩), x6, x7, x8, x9, x10, x11, x12, x13, x14, x15, x16, x17, x18, x19, x20, x21, x22, x23, x24, x25, x26, x27, x28, x29, x30, x31, x32, x33, x34, x35, x36, x37, x38, x39, x40, x41, x42, x43, x44, x45, x46, x47, x48, x49, x50, x51, x52, x53, x54, x55, x56, x57, x58, x59, x60, x61, x62, x63, x64, x65, x66, x67, x68, x69, x70, x71, x72, x73, x74, x75, x76, x77, x78, x79, x80, x81, x82, x83, x84, x85, x86, x87, x88, x89, x90, x91, x92, x93, x94, x95, x96, x97, x98, x99, x100, x101, x102, x103, x104, x105, x106, x107, x108, x109, x110, x111, x112, x113, x114, x115, x116, x117, x118, x119, x120, x121, x122, x123, x124, x125, x126, x127, x128, x129, x130, x131, x132, x133, x134, x135, x136, x137, x138, x139, x140, x141, x142, x143, x144, x145, x146, x147, x148, x149, x150, x151, x152, x153, x154, x155], defers := [] } W := by
  conv => arg 2; whnf
  have p0 := HP0.out
  have p1 := HP1.out
  have hEW := HEW.out
  skip
  skip
  replace p0_0 := p0.cell (i := 0) rfl
  replace p0_1 := p0.cell (i := 1) rfl
  replace p0_2 := p0.cell (i := 2) rfl
  replace p1_0 := p1.cell (i := 0) rfl
  replace p1_1 := p1.cell (i := 1) rfl
  replace p1_2 := p1.cell (i := 2) rfl
  focus
    have p0W := p0
    have p1W := p1
    have hlt1 : w.heap.size + 1 < W.heap.size := p1.lt
    have hEd : Ext W W.drew := (Below.refl _ _).drew
    have hsd : W.heap.size ≤ W.drew.heap.size := hEd.size
    replace p0 := p0.ext hEd; replace p0_0 := p0.cell (i := 0) rfl; replace p0_1 := p0.cell (i := 1) rfl; replace p0_2 := p0.cell (i := 2) rfl; replace p1 := p1.ext hEd; replace p1_0 := p1.cell (i := 0) rfl; replace p1_1 := p1.cell (i := 1) rfl; replace p1_2 := p1.cell (i := 2) rfl
    have hE0 := hEd
    clear hEd
    refine wp_region_noPanic ?_
    refine wp_region_held_drew (S := (fun w' => w'.cell? ⟨w.heap.size, 0, none⟩ = some (.bool b) ∧ w'.cell? ⟨w.heap.size, 1, none⟩ = some (.slice a n c) ∧ w'.cell? ⟨w.heap.size, 2, none⟩ = some (.slice a2 n2 c2) ∧ w'.cell? ⟨w.heap.size + 1, 0, none⟩ = some (.bool b') ∧ w'.cell? ⟨w.heap.size + 1, 1, none⟩ = some (.slice a' n' c') ∧ w'.cell? ⟨w.heap.size + 1, 2, none⟩ = some (.slice a2' n2' c2'))) (by as_aux_lemma => kernel_rfl) ⟨p0_0, p0_1, p0_2, p1_0, p1_1, p1_2⟩ (fun hHeld => ?_)
    refine takeY 0 22 hHeld ?_
    refine takeY 2 24 hHeld ?_
    skip
    skip
    refine wpAnyH_ready (rs := [1, 4, 5]) (by as_aux_lemma => kernel_rfl) (by simp) ?_
    refine AllReadyH.cons rfl (fun Kc hKc => ?_) (AllReadyH.cons rfl (fun Kc hKc => ?_) (AllReadyH.cons rfl (fun Kc hKc => ?_) AllReadyH.nil))
    rotate_left 2
    focus
      refine Eq.mpr (if_pos (by as_aux_lemma => kernel_rfl)) ?_
      go_simp
      have hE1 : Ext W (W.alloc (Obj.cells #[.bool false, .slice none 0 0, .slice none 0 0] 28)).drew := ((Below.refl _ _).alloc (Nat.le_refl _) _).drew
      have qb : Blk (W.alloc (Obj.cells #[.bool false, .slice none 0 0, .slice none 0 0] 28)).drew W.heap.size 28 #[.bool false, .slice none 0 0, .slice none 0 0] := Blk.new W 28 #[.bool false, .slice none 0 0, .slice none 0 0]
      replace hE0 := hE1
      have p0 := p0W.ext hE1
      have p1 := p1W.ext hE1
      replace p0_0 := p0.cell (i := 0) rfl
      replace p0_1 := p0.cell (i := 1) rfl
      replace p0_2 := p0.cell (i := 2) rfl
      replace p1_0 := p1.cell (i := 0) rfl
      replace p1_1 := p1.cell (i := 1) rfl
      replace p1_2 := p1.cell (i := 2) rfl
      have hs0 := hE1.size
      clear hE1
      refine hKc.out _ _ ⟨p0_0, p0_1, p0_2, p1_0, p1_1, p1_2⟩ (fun hHeld => ?_)
      clear hKc Kc
      try simp only [Act.put, List.setIfInBounds_toArray, List.set_cons_zero, List.set_cons_succ]
      have ltqB : W.heap.size < (W.alloc (Obj.cells #[.bool false, .slice none 0 0, .slice none 0 0] 28)).drew.heap.size := qb.lt
      generalize (W.alloc (Obj.cells #[.bool false, .slice none 0 0, .slice none 0 0] 28)).drew = w5 at *
      obtain ⟨qB, hqB⟩ : ∃ q, W.heap.size = q := ⟨_, rfl⟩
      have geqB : W.heap.size ≤ qB := Nat.le_of_eq hqB
      have leqB : qB ≤ W.heap.size := Nat.le_of_eq hqB.symm
      rw [hqB] at qb ⊢
      clear hqB
      skip
      replace qb_0 := qb.cell (i := 0) rfl
      replace qb_1 := qb.cell (i := 1) rfl
      replace qb_2 := qb.cell (i := 2) rfl
      replace qb_f0 := qb.free 0
      replace qb_f1 := qb.free 1
      replace qb_f2 := qb.free 2
      replace qb_lt := qb.lt
      skip
      skip
      refine wpAnyH_ready (rs := [1, 4]) (by as_aux_lemma => kernel_rfl) (by simp) ?_
      refine AllReadyH.cons rfl (fun Kc hKc => ?_) (AllReadyH.cons rfl (fun Kc hKc => ?_) AllReadyH.nil)
      rotate_left 1
      focus
        refine Eq.mpr (if_pos (by as_aux_lemma => kernel_rfl)) ?_
        go_simp
        have hE1 : Ext w5 (w5.alloc (Obj.cells #[.bool false, .slice none 0 0, .slice none 0 0] 28)) := (Below.refl _ _).alloc (Nat.le_refl _) _
        have qa : Blk (w5.alloc (Obj.cells #[.bool false, .slice none 0 0, .slice none 0 0] 28)) w5.heap.size 28 #[.bool false, .slice none 0 0, .slice none 0 0] := Blk.new w5 28 #[.bool false, .slice none 0 0, .slice none 0 0]
        replace hE0 := Ext.trans hE0 hE1
        skip
        replace p0 := p0.ext hE1; replace p0_0 := p0.cell (i := 0) rfl; replace p0_1 := p0.cell (i := 1) rfl; replace p0_2 := p0.cell (i := 2) rfl; replace p1 := p1.ext hE1; replace p1_0 := p1.cell (i := 0) rfl; replace p1_1 := p1.cell (i := 1) rfl; replace p1_2 := p1.cell (i := 2) rfl; replace qb := qb.ext hE1; replace qb_0 := qb.cell (i := 0) rfl; replace qb_1 := qb.cell (i := 1) rfl; replace qb_2 := qb.cell (i := 2) rfl; replace qb_f0 := qb.free 0; replace qb_f1 := qb.free 1; replace qb_f2 := qb.free 2; replace qb_lt := qb.lt
        have hs1 := hE1.size
        clear hE1
        refine hKc.out _ _ ⟨p0_0, p0_1, p0_2, p1_0, p1_1, p1_2⟩ (fun hHeld => ?_)
        clear hKc Kc
        try simp only [Act.put, List.setIfInBounds_toArray, List.set_cons_zero, List.set_cons_succ]
        have ltqA : w5.heap.size < (w5.alloc (Obj.cells #[.bool false, .slice none 0 0, .slice none 0 0] 28)).heap.size := qa.lt
        generalize (w5.alloc (Obj.cells #[.bool false, .slice none 0 0, .slice none 0 0] 28)) = w6 at *
        obtain ⟨qA, hqA⟩ : ∃ q, w5.heap.size = q := ⟨_, rfl⟩
        have geqA : w5.heap.size ≤ qA := Nat.le_of_eq hqA
        have leqA : qA ≤ w5.heap.size := Nat.le_of_eq hqA.symm
        rw [hqA] at qa ⊢
        clear hqA
        skip
        replace qa_0 := qa.cell (i := 0) rfl
        replace qa_1 := qa.cell (i := 1) rfl
        replace qa_2 := qa.cell (i := 2) rfl
        replace qa_f0 := qa.free 0
        replace qa_f1 := qa.free 1
        replace qa_f2 := qa.free 2
        replace qa_lt := qa.lt
        skip
        skip
        refine stepD 1 rfl (by as_aux_lemma => kernel_rfl) (fun Kc hKc => ?_)
        refine Eq.mpr (if_pos (by as_aux_lemma => kernel_rfl)) ?_
        go_simp
        refine (copy_raw K (by omega) w6 b a a2 n c n2 c2 x.1 x.2 l xss (HX.out.ext (Ext.trans hEW hE0)) HRX (by omega)).mono ?_
        rintro e w7 ⟨a3, c3, a4, c4, rfl, h5, hE1⟩
        have hs2 := hE1.size
        skip
        skip
        replace p0 := p0.ext hE1; replace p0_0 := p0.cell (i := 0) rfl; replace p0_1 := p0.cell (i := 1) rfl; replace p0_2 := p0.cell (i := 2) rfl; replace p1 := p1.ext hE1; replace p1_0 := p1.cell (i := 0) rfl; replace p1_1 := p1.cell (i := 1) rfl; replace p1_2 := p1.cell (i := 2) rfl; replace qa := qa.ext hE1; replace qa_0 := qa.cell (i := 0) rfl; replace qa_1 := qa.cell (i := 1) rfl; replace qa_2 := qa.cell (i := 2) rfl; replace qa_f0 := qa.free 0; replace qa_f1 := qa.free 1; replace qa_f2 := qa.free 2; replace qa_lt := qa.lt; replace qb := qb.ext hE1; replace qb_0 := qb.cell (i := 0) rfl; replace qb_1 := qb.cell (i := 1) rfl; replace qb_2 := qb.cell (i := 2) rfl; replace qb_f0 := qb.free 0; replace qb_f1 := qb.free 1; replace qb_f2 := qb.free 2; replace qb_lt := qb.lt
        have hk5 := Kept.refl w6.heap.size w7
        replace hE0 := Ext.trans hE0 hE1
        clear hE1
        go_wp2_with fail
        refine hKc.out _ _ ⟨p0_0, p0_1, p0_2, p1_0, p1_1, p1_2⟩ (fun hHeld => ?_)
        clear hKc Kc
        try simp only [Act.put, List.setIfInBounds_toArray, List.set_cons_zero, List.set_cons_succ]
        skip
        skip
        refine stepD 3 rfl (by as_aux_lemma => kernel_rfl) (fun Kc hKc => ?_)
        refine Eq.mpr (if_pos (by as_aux_lemma => kernel_rfl)) ?_
        go_simp
        refine (copy_raw K (by omega) w7 b' a' a2' n' c' n2' c2' y.1 y.2 l' yss (HY.out.ext (Ext.trans hEW hE0)) HRY (by omega)).mono ?_
        rintro e w8 ⟨a5, c5, a6, c6, rfl, h6, hE1⟩
        have hs3 := hE1.size
        skip
        skip
        replace p0 := p0.ext hE1; replace p0_0 := p0.cell (i := 0) rfl; replace p0_1 := p0.cell (i := 1) rfl; replace p0_2 := p0.cell (i := 2) rfl; replace p1 := p1.ext hE1; replace p1_0 := p1.cell (i := 0) rfl; replace p1_1 := p1.cell (i := 1) rfl; replace p1_2 := p1.cell (i := 2) rfl; replace qa := qa.ext hE1; replace qa_0 := qa.cell (i := 0) rfl; replace qa_1 := qa.cell (i := 1) rfl; replace qa_2 := qa.cell (i := 2) rfl; replace qa_f0 := qa.free 0; replace qa_f1 := qa.free 1; replace qa_f2 := qa.free 2; replace qa_lt := qa.lt; replace qb := qb.ext hE1; replace qb_0 := qb.cell (i := 0) rfl; replace qb_1 := qb.cell (i := 1) rfl; replace qb_2 := qb.cell (i := 2) rfl; replace qb_f0 := qb.free 0; replace qb_f1 := qb.free 1; replace qb_f2 := qb.free 2; replace qb_lt := qb.lt
        have hk6 := Kept.refl w7.heap.size w8
        replace hk5 := Kept.trans hk5 (Ext.kept hE1)
        replace hE0 := Ext.trans hE0 hE1
        clear hE1
        go_wp2_with fail
        refine hKc.out _ _ ⟨p0_0, p0_1, p0_2, p1_0, p1_1, p1_2⟩ (fun hHeld => ?_)
        clear hKc Kc
        try simp only [Act.put, List.setIfInBounds_toArray, List.set_cons_zero, List.set_cons_succ]
        obtain ⟨wL, rfl⟩ : ∃ x : World, x = w8 := ⟨_, rfl⟩
      rotate_right 1
      focus
        refine Eq.mpr (if_pos (by as_aux_lemma => kernel_rfl)) ?_
        go_simp
        refine (copy_raw K (by omega) w5 b a a2 n c n2 c2 x.1 x.2 l xss (HX.out.ext (Ext.trans hEW hE0)) HRX (by omega)).mono ?_
        rintro e w6 ⟨a3, c3, a4, c4, rfl, h5, hE1⟩
        have hs1 := hE1.size
        skip
        replace p0 := p0.ext hE1; replace p0_0 := p0.cell (i := 0) rfl; replace p0_1 := p0.cell (i := 1) rfl; replace p0_2 := p0.cell (i := 2) rfl; replace p1 := p1.ext hE1; replace p1_0 := p1.cell (i := 0) rfl; replace p1_1 := p1.cell (i := 1) rfl; replace p1_2 := p1.cell (i := 2) rfl; replace qb := qb.ext hE1; replace qb_0 := qb.cell (i := 0) rfl; replace qb_1 := qb.cell (i := 1) rfl; replace qb_2 := qb.cell (i := 2) rfl; replace qb_f0 := qb.free 0; replace qb_f1 := qb.free 1; replace qb_f2 := qb.free 2; replace qb_lt := qb.lt
        have hk5 := Kept.refl w5.heap.size w6
        replace hE0 := Ext.trans hE0 hE1
        clear hE1
        go_wp2_with fail
        refine hKc.out _ _ ⟨p0_0, p0_1, p0_2, p1_0, p1_1, p1_2⟩ (fun hHeld => ?_)
        clear hKc Kc
        try simp only [Act.put, List.setIfInBounds_toArray, List.set_cons_zero, List.set_cons_succ]
        skip
        skip
        refine wpAnyH_ready (rs := [3, 4]) (by as_aux_lemma => kernel_rfl) (by simp) ?_
        refine AllReadyH.cons rfl (fun Kc hKc => ?_) (AllReadyH.cons rfl (fun Kc hKc => ?_) AllReadyH.nil)
        rotate_left 1
        focus
          refine Eq.mpr (if_pos (by as_aux_lemma => kernel_rfl)) ?_
          go_simp
          have hE1 : Ext w6 (w6.alloc (Obj.cells #[.bool false, .slice none 0 0, .slice none 0 0] 28)) := (Below.refl _ _).alloc (Nat.le_refl _) _
          have qa : Blk (w6.alloc (Obj.cells #[.bool false, .slice none 0 0, .slice none 0 0] 28)) w6.heap.size 28 #[.bool false, .slice none 0 0, .slice none 0 0] := Blk.new w6 28 #[.bool false, .slice none 0 0, .slice none 0 0]
          replace hE0 := Ext.trans hE0 hE1
          skip
          replace p0 := p0.ext hE1; replace p0_0 := p0.cell (i := 0) rfl; replace p0_1 := p0.cell (i := 1) rfl; replace p0_2 := p0.cell (i := 2) rfl; replace p1 := p1.ext hE1; replace p1_0 := p1.cell (i := 0) rfl; replace p1_1 := p1.cell (i := 1) rfl; replace p1_2 := p1.cell (i := 2) rfl; replace qb := qb.ext hE1; replace qb_0 := qb.cell (i := 0) rfl; replace qb_1 := qb.cell (i := 1) rfl; replace qb_2 := qb.cell (i := 2) rfl; replace qb_f0 := qb.free 0; replace qb_f1 := qb.free 1; replace qb_f2 := qb.free 2; replace qb_lt := qb.lt
          replace hk5 := Kept.trans hk5 (Ext.kept hE1)
          have hs2 := hE1.size
          clear hE1
          refine hKc.out _ _ ⟨p0_0, p0_1, p0_2, p1_0, p1_1, p1_2⟩ (fun hHeld => ?_)
          clear hKc Kc
          try simp only [Act.put, List.setIfInBounds_toArray, List.set_cons_zero, List.set_cons_succ]
          have ltqA : w6.heap.size < (w6.alloc (Obj.cells #[.bool false, .slice none 0 0, .slice none 0 0] 28)).heap.size := qa.lt
          generalize (w6.alloc (Obj.cells #[.bool false, .slice none 0 0, .slice none 0 0] 28)) = w7 at *
          obtain ⟨qA, hqA⟩ : ∃ q, w6.heap.size = q := ⟨_, rfl⟩
          have geqA : w6.heap.size ≤ qA := Nat.le_of_eq hqA
          have leqA : qA ≤ w6.heap.size := Nat.le_of_eq hqA.symm
          rw [hqA] at qa ⊢
          clear hqA
          skip
          replace qa_0 := qa.cell (i := 0) rfl
          replace qa_1 := qa.cell (i := 1) rfl
          replace qa_2 := qa.cell (i := 2) rfl
          replace qa_f0 := qa.free 0
          replace qa_f1 := qa.free 1
          replace qa_f2 := qa.free 2
          replace qa_lt := qa.lt
          skip
          skip
          refine stepD 3 rfl (by as_aux_lemma => kernel_rfl) (fun Kc hKc => ?_)
          refine Eq.mpr (if_pos (by as_aux_lemma => kernel_rfl)) ?_
          go_simp
          refine (copy_raw K (by omega) w7 b' a' a2' n' c' n2' c2' y.1 y.2 l' yss (HY.out.ext (Ext.trans hEW hE0)) HRY (by omega)).mono ?_
          rintro e w8 ⟨a5, c5, a6, c6, rfl, h6, hE1⟩
          have hs3 := hE1.size
          skip
          skip
          replace p0 := p0.ext hE1; replace p0_0 := p0.cell (i := 0) rfl; replace p0_1 := p0.cell (i := 1) rfl; replace p0_2 := p0.cell (i := 2) rfl; replace p1 := p1.ext hE1; replace p1_0 := p1.cell (i := 0) rfl; replace p1_1 := p1.cell (i := 1) rfl; replace p1_2 := p1.cell (i := 2) rfl; replace qa := qa.ext hE1; replace qa_0 := qa.cell (i := 0) rfl; replace qa_1 := qa.cell (i := 1) rfl; replace qa_2 := qa.cell (i := 2) rfl; replace qa_f0 := qa.free 0; replace qa_f1 := qa.free 1; replace qa_f2 := qa.free 2; replace qa_lt := qa.lt; replace qb := qb.ext hE1; replace qb_0 := qb.cell (i := 0) rfl; replace qb_1 := qb.cell (i := 1) rfl; replace qb_2 := qb.cell (i := 2) rfl; replace qb_f0 := qb.free 0; replace qb_f1 := qb.free 1; replace qb_f2 := qb.free 2; replace qb_lt := qb.lt
          have hk6 := Kept.refl w7.heap.size w8
          replace hk5 := Kept.trans hk5 (Ext.kept hE1)
          replace hE0 := Ext.trans hE0 hE1
          clear hE1
          go_wp2_with fail
          refine hKc.out _ _ ⟨p0_0, p0_1, p0_2, p1_0, p1_1, p1_2⟩ (fun hHeld => ?_)
          clear hKc Kc
          try simp only [Act.put, List.setIfInBounds_toArray, List.set_cons_zero, List.set_cons_succ]
          obtain ⟨wL, rfl⟩ : ∃ x : World, x = w8 := ⟨_, rfl⟩
        rotate_right 1
        focus
          refine Eq.mpr (if_pos (by as_aux_lemma => kernel_rfl)) ?_
          go_simp
          refine (copy_raw K (by omega) w6 b' a' a2' n' c' n2' c2' y.1 y.2 l' yss (HY.out.ext (Ext.trans hEW hE0)) HRY (by omega)).mono ?_
          rintro e w7 ⟨a5, c5, a6, c6, rfl, h6, hE1⟩
          have hs2 := hE1.size
          skip
          replace p0 := p0.ext hE1; replace p0_0 := p0.cell (i := 0) rfl; replace p0_1 := p0.cell (i := 1) rfl; replace p0_2 := p0.cell (i := 2) rfl; replace p1 := p1.ext hE1; replace p1_0 := p1.cell (i := 0) rfl; replace p1_1 := p1.cell (i := 1) rfl; replace p1_2 := p1.cell (i := 2) rfl; replace qb := qb.ext hE1; replace qb_0 := qb.cell (i := 0) rfl; replace qb_1 := qb.cell (i := 1) rfl; replace qb_2 := qb.cell (i := 2) rfl; replace qb_f0 := qb.free 0; replace qb_f1 := qb.free 1; replace qb_f2 := qb.free 2; replace qb_lt := qb.lt
          have hk6 := Kept.refl w6.heap.size w7
          replace hk5 := Kept.trans hk5 (Ext.kept hE1)
          replace hE0 := Ext.trans hE0 hE1
          clear hE1
          go_wp2_with fail
          refine hKc.out _ _ ⟨p0_0, p0_1, p0_2, p1_0, p1_1, p1_2⟩ (fun hHeld => ?_)
          clear hKc Kc
          try simp only [Act.put, List.setIfInBounds_toArray, List.set_cons_zero, List.set_cons_succ]
          skip
          skip
          refine stepD 4 rfl (by as_aux_lemma => kernel_rfl) (fun Kc hKc => ?_)
          refine Eq.mpr (if_pos (by as_aux_lemma => kernel_rfl)) ?_
          go_simp
          have hE1 : Ext w7 (w7.alloc (Obj.cells #[.bool false, .slice none 0 0, .slice none 0 0] 28)) := (Below.refl _ _).alloc (Nat.le_refl _) _
          have qa : Blk (w7.alloc (Obj.cells #[.bool false, .slice none 0 0, .slice none 0 0] 28)) w7.heap.size 28 #[.bool false, .slice none 0 0, .slice none 0 0] := Blk.new w7 28 #[.bool false, .slice none 0 0, .slice none 0 0]
          replace hE0 := Ext.trans hE0 hE1
          skip
          replace p0 := p0.ext hE1; replace p0_0 := p0.cell (i := 0) rfl; replace p0_1 := p0.cell (i := 1) rfl; replace p0_2 := p0.cell (i := 2) rfl; replace p1 := p1.ext hE1; replace p1_0 := p1.cell (i := 0) rfl; replace p1_1 := p1.cell (i := 1) rfl; replace p1_2 := p1.cell (i := 2) rfl; replace qb := qb.ext hE1; replace qb_0 := qb.cell (i := 0) rfl; replace qb_1 := qb.cell (i := 1) rfl; replace qb_2 := qb.cell (i := 2) rfl; replace qb_f0 := qb.free 0; replace qb_f1 := qb.free 1; replace qb_f2 := qb.free 2; replace qb_lt := qb.lt
          replace hk5 := Kept.trans hk5 (Ext.kept hE1)
          replace hk6 := Kept.trans hk6 (Ext.kept hE1)
          have hs3 := hE1.size
          clear hE1
          refine hKc.out _ _ ⟨p0_0, p0_1, p0_2, p1_0, p1_1, p1_2⟩ (fun hHeld => ?_)
          clear hKc Kc
          try simp only [Act.put, List.setIfInBounds_toArray, List.set_cons_zero, List.set_cons_succ]
          have ltqA : w7.heap.size < (w7.alloc (Obj.cells #[.bool false, .slice none 0 0, .slice none 0 0] 28)).heap.size := qa.lt
          generalize (w7.alloc (Obj.cells #[.bool false, .slice none 0 0, .slice none 0 0] 28)) = w8 at *
          obtain ⟨qA, hqA⟩ : ∃ q, w7.heap.size = q := ⟨_, rfl⟩
          have geqA : w7.heap.size ≤ qA := Nat.le_of_eq hqA
          have leqA : qA ≤ w7.heap.size := Nat.le_of_eq hqA.symm
          rw [hqA] at qa ⊢
          clear hqA
          skip
          replace qa_0 := qa.cell (i := 0) rfl
          replace qa_1 := qa.cell (i := 1) rfl
          replace qa_2 := qa.cell (i := 2) rfl
          replace qa_f0 := qa.free 0
          replace qa_f1 := qa.free 1
          replace qa_f2 := qa.free 2
          replace qa_lt := qa.lt
          obtain ⟨wL, rfl⟩ : ∃ x : World, x = w8 := ⟨_, rfl⟩
    rotate_right 2
    rotate_left 1
    focus
      refine Eq.mpr (if_pos (by as_aux_lemma => kernel_rfl)) ?_
      go_simp
      have hE1 : Ext W (W.alloc (Obj.cells #[.bool false, .slice none 0 0, .slice none 0 0] 28)).drew := ((Below.refl _ _).alloc (Nat.le_refl _) _).drew
      have qa : Blk (W.alloc (Obj.cells #[.bool false, .slice none 0 0, .slice none 0 0] 28)).drew W.heap.size 28 #[.bool false, .slice none 0 0, .slice none 0 0] := Blk.new W 28 #[.bool false, .slice none 0 0, .slice none 0 0]
      replace hE0 := hE1
      have p0 := p0W.ext hE1
      have p1 := p1W.ext hE1
      replace p0_0 := p0.cell (i := 0) rfl
      replace p0_1 := p0.cell (i := 1) rfl
      replace p0_2 := p0.cell (i := 2) rfl
      replace p1_0 := p1.cell (i := 0) rfl
      replace p1_1 := p1.cell (i := 1) rfl
      replace p1_2 := p1.cell (i := 2) rfl
      have hs0 := hE1.size
      clear hE1
      refine hKc.out _ _ ⟨p0_0, p0_1, p0_2, p1_0, p1_1, p1_2⟩ (fun hHeld => ?_)
      clear hKc Kc
      try simp only [Act.put, List.setIfInBounds_toArray, List.set_cons_zero, List.set_cons_succ]
      have ltqA : W.heap.size < (W.alloc (Obj.cells #[.bool false, .slice none 0 0, .slice none 0 0] 28)).drew.heap.size := qa.lt
      generalize (W.alloc (Obj.cells #[.bool false, .slice none 0 0, .slice none 0 0] 28)).drew = w5 at *
      obtain ⟨qA, hqA⟩ : ∃ q, W.heap.size = q := ⟨_, rfl⟩
      have geqA : W.heap.size ≤ qA := Nat.le_of_eq hqA
      have leqA : qA ≤ W.heap.size := Nat.le_of_eq hqA.symm
      rw [hqA] at qa ⊢
      clear hqA
      skip
      replace qa_0 := qa.cell (i := 0) rfl
      replace qa_1 := qa.cell (i := 1) rfl
      replace qa_2 := qa.cell (i := 2) rfl
      replace qa_f0 := qa.free 0
      replace qa_f1 := qa.free 1
      replace qa_f2 := qa.free 2
      replace qa_lt := qa.lt
      skip
      skip
      refine wpAnyH_ready (rs := [1, 5]) (by as_aux_lemma => kernel_rfl) (by simp) ?_
      refine AllReadyH.cons rfl (fun Kc hKc => ?_) (AllReadyH.cons rfl (fun Kc hKc => ?_) AllReadyH.nil)
      rotate_left 1
      focus
        refine Eq.mpr (if_pos (by as_aux_lemma => kernel_rfl)) ?_
        go_simp
        have hE1 : Ext w5 (w5.alloc (Obj.cells #[.bool false, .slice none 0 0, .slice none 0 0] 28)) := (Below.refl _ _).alloc (Nat.le_refl _) _
        have qb : Blk (w5.alloc (Obj.cells #[.bool false, .slice none 0 0, .slice none 0 0] 28)) w5.heap.size 28 #[.bool false, .slice none 0 0, .slice none 0 0] := Blk.new w5 28 #[.bool false, .slice none 0 0, .slice none 0 0]
        replace hE0 := Ext.trans hE0 hE1
        skip
        replace p0 := p0.ext hE1; replace p0_0 := p0.cell (i := 0) rfl; replace p0_1 := p0.cell (i := 1) rfl; replace p0_2 := p0.cell (i := 2) rfl; replace p1 := p1.ext hE1; replace p1_0 := p1.cell (i := 0) rfl; replace p1_1 := p1.cell (i := 1) rfl; replace p1_2 := p1.cell (i := 2) rfl; replace qa := qa.ext hE1; replace qa_0 := qa.cell (i := 0) rfl; replace qa_1 := qa.cell (i := 1) rfl; replace qa_2 := qa.cell (i := 2) rfl; replace qa_f0 := qa.free 0; replace qa_f1 := qa.free 1; replace qa_f2 := qa.free 2; replace qa_lt := qa.lt
        have hs1 := hE1.size
        clear hE1
        refine hKc.out _ _ ⟨p0_0, p0_1, p0_2, p1_0, p1_1, p1_2⟩ (fun hHeld => ?_)
        clear hKc Kc
        try simp only [Act.put, List.setIfInBounds_toArray, List.set_cons_zero, List.set_cons_succ]
        have ltqB : w5.heap.size < (w5.alloc (Obj.cells #[.bool false, .slice none 0 0, .slice none 0 0] 28)).heap.size := qb.lt
        generalize (w5.alloc (Obj.cells #[.bool false, .slice none 0 0, .slice none 0 0] 28)) = w6 at *
        obtain ⟨qB, hqB⟩ : ∃ q, w5.heap.size = q := ⟨_, rfl⟩
        have geqB : w5.heap.size ≤ qB := Nat.le_of_eq hqB
        have leqB : qB ≤ w5.heap.size := Nat.le_of_eq hqB.symm
        rw [hqB] at qb ⊢
        clear hqB
        skip
        replace qb_0 := qb.cell (i := 0) rfl
        replace qb_1 := qb.cell (i := 1) rfl
        replace qb_2 := qb.cell (i := 2) rfl
        replace qb_f0 := qb.free 0
        replace qb_f1 := qb.free 1
        replace qb_f2 := qb.free 2
        replace qb_lt := qb.lt
        skip
        skip
        refine stepD 1 rfl (by as_aux_lemma => kernel_rfl) (fun Kc hKc => ?_)
        refine Eq.mpr (if_pos (by as_aux_lemma => kernel_rfl)) ?_
        go_simp
        refine (copy_raw K (by omega) w6 b a a2 n c n2 c2 x.1 x.2 l xss (HX.out.ext (Ext.trans hEW hE0)) HRX (by omega)).mono ?_
        rintro e w7 ⟨a3, c3, a4, c4, rfl, h5, hE1⟩
        have hs2 := hE1.size
        skip
        skip
        replace p0 := p0.ext hE1; replace p0_0 := p0.cell (i := 0) rfl; replace p0_1 := p0.cell (i := 1) rfl; replace p0_2 := p0.cell (i := 2) rfl; replace p1 := p1.ext hE1; replace p1_0 := p1.cell (i := 0) rfl; replace p1_1 := p1.cell (i := 1) rfl; replace p1_2 := p1.cell (i := 2) rfl; replace qa := qa.ext hE1; replace qa_0 := qa.cell (i := 0) rfl; replace qa_1 := qa.cell (i := 1) rfl; replace qa_2 := qa.cell (i := 2) rfl; replace qa_f0 := qa.free 0; replace qa_f1 := qa.free 1; replace qa_f2 := qa.free 2; replace qa_lt := qa.lt; replace qb := qb.ext hE1; replace qb_0 := qb.cell (i := 0) rfl; replace qb_1 := qb.cell (i := 1) rfl; replace qb_2 := qb.cell (i := 2) rfl; replace qb_f0 := qb.free 0; replace qb_f1 := qb.free 1; replace qb_f2 := qb.free 2; replace qb_lt := qb.lt
        have hk5 := Kept.refl w6.heap.size w7
        replace hE0 := Ext.trans hE0 hE1
        clear hE1
        go_wp2_with fail
        refine hKc.out _ _ ⟨p0_0, p0_1, p0_2, p1_0, p1_1, p1_2⟩ (fun hHeld => ?_)
        clear hKc Kc
        try simp only [Act.put, List.setIfInBounds_toArray, List.set_cons_zero, List.set_cons_succ]
        skip
        skip
        refine stepD 3 rfl (by as_aux_lemma => kernel_rfl) (fun Kc hKc => ?_)
        refine Eq.mpr (if_pos (by as_aux_lemma => kernel_rfl)) ?_
        go_simp
        refine (copy_raw K (by omega) w7 b' a' a2' n' c' n2' c2' y.1 y.2 l' yss (HY.out.ext (Ext.trans hEW hE0)) HRY (by omega)).mono ?_
        rintro e w8 ⟨a5, c5, a6, c6, rfl, h6, hE1⟩
        have hs3 := hE1.size
        skip
        skip
        replace p0 := p0.ext hE1; replace p0_0 := p0.cell (i := 0) rfl; replace p0_1 := p0.cell (i := 1) rfl; replace p0_2 := p0.cell (i := 2) rfl; replace p1 := p1.ext hE1; replace p1_0 := p1.cell (i := 0) rfl; replace p1_1 := p1.cell (i := 1) rfl; replace p1_2 := p1.cell (i := 2) rfl; replace qa := qa.ext hE1; replace qa_0 := qa.cell (i := 0) rfl; replace qa_1 := qa.cell (i := 1) rfl; replace qa_2 := qa.cell (i := 2) rfl; replace qa_f0 := qa.free 0; replace qa_f1 := qa.free 1; replace qa_f2 := qa.free 2; replace qa_lt := qa.lt; replace qb := qb.ext hE1; replace qb_0 := qb.cell (i := 0) rfl; replace qb_1 := qb.cell (i := 1) rfl; replace qb_2 := qb.cell (i := 2) rfl; replace qb_f0 := qb.free 0; replace qb_f1 := qb.free 1; replace qb_f2 := qb.free 2; replace qb_lt := qb.lt
        have hk6 := Kept.refl w7.heap.size w8
        replace hk5 := Kept.trans hk5 (Ext.kept hE1)
        replace hE0 := Ext.trans hE0 hE1
        clear hE1
        go_wp2_with fail
        refine hKc.out _ _ ⟨p0_0, p0_1, p0_2, p1_0, p1_1, p1_2⟩ (fun hHeld => ?_)
        clear hKc Kc
        try simp only [Act.put, List.setIfInBounds_toArray, List.set_cons_zero, List.set_cons_succ]
        obtain ⟨wL, rfl⟩ : ∃ x : World, x = w8 := ⟨_, rfl⟩
      rotate_right 1
      focus
        refine Eq.mpr (if_pos (by as_aux_lemma => kernel_rfl)) ?_
        go_simp
        refine (copy_raw K (by omega) w5 b a a2 n c n2 c2 x.1 x.2 l xss (HX.out.ext (Ext.trans hEW hE0)) HRX (by omega)).mono ?_
        rintro e w6 ⟨a3, c3, a4, c4, rfl, h5, hE1⟩
        have hs1 := hE1.size
        skip
        replace p0 := p0.ext hE1; replace p0_0 := p0.cell (i := 0) rfl; replace p0_1 := p0.cell (i := 1) rfl; replace p0_2 := p0.cell (i := 2) rfl; replace p1 := p1.ext hE1; replace p1_0 := p1.cell (i := 0) rfl; replace p1_1 := p1.cell (i := 1) rfl; replace p1_2 := p1.cell (i := 2) rfl; replace qa := qa.ext hE1; replace qa_0 := qa.cell (i := 0) rfl; replace qa_1 := qa.cell (i := 1) rfl; replace qa_2 := qa.cell (i := 2) rfl; replace qa_f0 := qa.free 0; replace qa_f1 := qa.free 1; replace qa_f2 := qa.free 2; replace qa_lt := qa.lt
        have hk5 := Kept.refl w5.heap.size w6
        replace hE0 := Ext.trans hE0 hE1
        clear hE1
        go_wp2_with fail
        refine hKc.out _ _ ⟨p0_0, p0_1, p0_2, p1_0, p1_1, p1_2⟩ (fun hHeld => ?_)
        clear hKc Kc
        try simp only [Act.put, List.setIfInBounds_toArray, List.set_cons_zero, List.set_cons_succ]
        skip
        skip
        refine wpAnyH_ready (rs := [3, 5]) (by as_aux_lemma => kernel_rfl) (by simp) ?_
        refine AllReadyH.cons rfl (fun Kc hKc => ?_) (AllReadyH.cons rfl (fun Kc hKc => ?_) AllReadyH.nil)
        rotate_left 1
        focus
          refine Eq.mpr (if_pos (by as_aux_lemma => kernel_rfl)) ?_
          go_simp
          have hE1 : Ext w6 (w6.alloc (Obj.cells #[.bool false, .slice none 0 0, .slice none 0 0] 28)) := (Below.refl _ _).alloc (Nat.le_refl _) _
          have qb : Blk (w6.alloc (Obj.cells #[.bool false, .slice none 0 0, .slice none 0 0] 28)) w6.heap.size 28 #[.bool false, .slice none 0 0, .slice none 0 0] := Blk.new w6 28 #[.bool false, .slice none 0 0, .slice none 0 0]
          replace hE0 := Ext.trans hE0 hE1
          skip
          replace p0 := p0.ext hE1; replace p0_0 := p0.cell (i := 0) rfl; replace p0_1 := p0.cell (i := 1) rfl; replace p0_2 := p0.cell (i := 2) rfl; replace p1 := p1.ext hE1; replace p1_0 := p1.cell (i := 0) rfl; replace p1_1 := p1.cell (i := 1) rfl; replace p1_2 := p1.cell (i := 2) rfl; replace qa := qa.ext hE1; replace qa_0 := qa.cell (i := 0) rfl; replace qa_1 := qa.cell (i := 1) rfl; replace qa_2 := qa.cell (i := 2) rfl; replace qa_f0 := qa.free 0; replace qa_f1 := qa.free 1; replace qa_f2 := qa.free 2; replace qa_lt := qa.lt
          replace hk5 := Kept.trans hk5 (Ext.kept hE1)
          have hs2 := hE1.size
          clear hE1
          refine hKc.out _ _ ⟨p0_0, p0_1, p0_2, p1_0, p1_1, p1_2⟩ (fun hHeld => ?_)
          clear hKc Kc
          try simp only [Act.put, List.setIfInBounds_toArray, List.set_cons_zero, List.set_cons_succ]
          have ltqB : w6.heap.size < (w6.alloc (Obj.cells #[.bool false, .slice none 0 0, .slice none 0 0] 28)).heap.size := qb.lt
          generalize (w6.alloc (Obj.cells #[.bool false, .slice none 0 0, .slice none 0 0] 28)) = w7 at *
          obtain ⟨qB, hqB⟩ : ∃ q, w6.heap.size = q := ⟨_, rfl⟩
          have geqB : w6.heap.size ≤ qB := Nat.le_of_eq hqB
          have leqB : qB ≤ w6.heap.size := Nat.le_of_eq hqB.symm
          rw [hqB] at qb ⊢
          clear hqB
          skip
          replace qb_0 := qb.cell (i := 0) rfl
          replace qb_1 := qb.cell (i := 1) rfl
          replace qb_2 := qb.cell (i := 2) rfl
          replace qb_f0 := qb.free 0
          replace qb_f1 := qb.free 1
          replace qb_f2 := qb.free 2
          replace qb_lt := qb.lt
          skip
          skip
          refine stepD 3 rfl (by as_aux_lemma => kernel_rfl) (fun Kc hKc => ?_)
          refine Eq.mpr (if_pos (by as_aux_lemma => kernel_rfl)) ?_
          go_simp
          refine (copy_raw K (by omega) w7 b' a' a2' n' c' n2' c2' y.1 y.2 l' yss (HY.out.ext (Ext.trans hEW hE0)) HRY (by omega)).mono ?_
          rintro e w8 ⟨a5, c5, a6, c6, rfl, h6, hE1⟩
          have hs3 := hE1.size
          skip
          skip
          replace p0 := p0.ext hE1; replace p0_0 := p0.cell (i := 0) rfl; replace p0_1 := p0.cell (i := 1) rfl; replace p0_2 := p0.cell (i := 2) rfl; replace p1 := p1.ext hE1; replace p1_0 := p1.cell (i := 0) rfl; replace p1_1 := p1.cell (i := 1) rfl; replace p1_2 := p1.cell (i := 2) rfl; replace qa := qa.ext hE1; replace qa_0 := qa.cell (i := 0) rfl; replace qa_1 := qa.cell (i := 1) rfl; replace qa_2 := qa.cell (i := 2) rfl; replace qa_f0 := qa.free 0; replace qa_f1 := qa.free 1; replace qa_f2 := qa.free 2; replace qa_lt := qa.lt; replace qb := qb.ext hE1; replace qb_0 := qb.cell (i := 0) rfl; replace qb_1 := qb.cell (i := 1) rfl; replace qb_2 := qb.cell (i := 2) rfl; replace qb_f0 := qb.free 0; replace qb_f1 := qb.free 1; replace qb_f2 := qb.free 2; replace qb_lt := qb.lt
          have hk6 := Kept.refl w7.heap.size w8
          replace hk5 := Kept.trans hk5 (Ext.kept hE1)
          replace hE0 := Ext.trans hE0 hE1
          clear hE1
          go_wp2_with fail
          refine hKc.out _ _ ⟨p0_0, p0_1, p0_2, p1_0, p1_1, p1_2⟩ (fun hHeld => ?_)
          clear hKc Kc
          try simp only [Act.put, List.setIfInBounds_toArray, List.set_cons_zero, List.set_cons_succ]
          obtain ⟨wL, rfl⟩ : ∃ x : World, x = w8 := ⟨_, rfl⟩
        rotate_right 1
        focus
          refine Eq.mpr (if_pos (by as_aux_lemma => kernel_rfl)) ?_
          go_simp
          refine (copy_raw K (by omega) w6 b' a' a2' n' c' n2' c2' y.1 y.2 l' yss (HY.out.ext (Ext.trans hEW hE0)) HRY (by omega)).mono ?_
          rintro e w7 ⟨a5, c5, a6, c6, rfl, h6, hE1⟩
          have hs2 := hE1.size
          skip
          replace p0 := p0.ext hE1; replace p0_0 := p0.cell (i := 0) rfl; replace p0_1 := p0.cell (i := 1) rfl; replace p0_2 := p0.cell (i := 2) rfl; replace p1 := p1.ext hE1; replace p1_0 := p1.cell (i := 0) rfl; replace p1_1 := p1.cell (i := 1) rfl; replace p1_2 := p1.cell (i := 2) rfl; replace qa := qa.ext hE1; replace qa_0 := qa.cell (i := 0) rfl; replace qa_1 := qa.cell (i := 1) rfl; replace qa_2 := qa.cell (i := 2) rfl; replace qa_f0 := qa.free 0; replace qa_f1 := qa.free 1; replace qa_f2 := qa.free 2; replace qa_lt := qa.lt
          have hk6 := Kept.refl w6.heap.size w7
          replace hk5 := Kept.trans hk5 (Ext.kept hE1)
          replace hE0 := Ext.trans hE0 hE1
          clear hE1
          go_wp2_with fail
          refine hKc.out _ _ ⟨p0_0, p0_1, p0_2, p1_0, p1_1, p1_2⟩ (fun hHeld => ?_)
          clear hKc Kc
          try simp only [Act.put, List.setIfInBounds_toArray, List.set_cons_zero, List.set_cons_succ]
          skip
          skip
          refine stepD 5 rfl (by as_aux_lemma => kernel_rfl) (fun Kc hKc => ?_)
          refine Eq.mpr (if_pos (by as_aux_lemma => kernel_rfl)) ?_
          go_simp
          have hE1 : Ext w7 (w7.alloc (Obj.cells #[.bool false, .slice none 0 0, .slice none 0 0] 28)) := (Below.refl _ _).alloc (Nat.le_refl _) _
          have qb : Blk (w7.alloc (Obj.cells #[.bool false, .slice none 0 0, .slice none 0 0] 28)) w7.heap.size 28 #[.bool false, .slice none 0 0, .slice none 0 0] := Blk.new w7 28 #[.bool false, .slice none 0 0, .slice none 0 0]
          replace hE0 := Ext.trans hE0 hE1
          skip
          replace p0 := p0.ext hE1; replace p0_0 := p0.cell (i := 0) rfl; replace p0_1 := p0.cell (i := 1) rfl; replace p0_2 := p0.cell (i := 2) rfl; replace p1 := p1.ext hE1; replace p1_0 := p1.cell (i := 0) rfl; replace p1_1 := p1.cell (i := 1) rfl; replace p1_2 := p1.cell (i := 2) rfl; replace qa := qa.ext hE1; replace qa_0 := qa.cell (i := 0) rfl; replace qa_1 := qa.cell (i := 1) rfl; replace qa_2 := qa.cell (i := 2) rfl; replace qa_f0 := qa.free 0; replace qa_f1 := qa.free 1; replace qa_f2 := qa.free 2; replace qa_lt := qa.lt
          replace hk5 := Kept.trans hk5 (Ext.kept hE1)
          replace hk6 := Kept.trans hk6 (Ext.kept hE1)
          have hs3 := hE1.size
          clear hE1
          refine hKc.out _ _ ⟨p0_0, p0_1, p0_2, p1_0, p1_1, p1_2⟩ (fun hHeld => ?_)
          clear hKc Kc
          try simp only [Act.put, List.setIfInBounds_toArray, List.set_cons_zero, List.set_cons_succ]
          have ltqB : w7.heap.size < (w7.alloc (Obj.cells #[.bool false, .slice none 0 0, .slice none 0 0] 28)).heap.size := qb.lt
          generalize (w7.alloc (Obj.cells #[.bool false, .slice none 0 0, .slice none 0 0] 28)) = w8 at *
          obtain ⟨qB, hqB⟩ : ∃ q, w7.heap.size = q := ⟨_, rfl⟩
          have geqB : w7.heap.size ≤ qB := Nat.le_of_eq hqB
          have leqB : qB ≤ w7.heap.size := Nat.le_of_eq hqB.symm
          rw [hqB] at qb ⊢
          clear hqB
          skip
          replace qb_0 := qb.cell (i := 0) rfl
          replace qb_1 := qb.cell (i := 1) rfl
          replace qb_2 := qb.cell (i := 2) rfl
          replace qb_f0 := qb.free 0
          replace qb_f1 := qb.free 1
          replace qb_f2 := qb.free 2
          replace qb_lt := qb.lt
          obtain ⟨wL, rfl⟩ : ∃ x : World, x = w8 := ⟨_, rfl⟩
    rotate_right 1
    focus
      refine Eq.mpr (if_pos (by as_aux_lemma => kernel_rfl)) ?_
      go_simp
      refine (copy_raw K (by omega) W.drew b a a2 n c n2 c2 x.1 x.2 l xss (HX.out.ext (Ext.trans hEW hE0)) HRX (by omega)).mono ?_
      rintro e w5 ⟨a3, c3, a4, c4, rfl, h5, hE1⟩
      have hs0 := hE1.size
      replace p0 := p0.ext hE1; replace p0_0 := p0.cell (i := 0) rfl; replace p0_1 := p0.cell (i := 1) rfl; replace p0_2 := p0.cell (i := 2) rfl; replace p1 := p1.ext hE1; replace p1_0 := p1.cell (i := 0) rfl; replace p1_1 := p1.cell (i := 1) rfl; replace p1_2 := p1.cell (i := 2) rfl
      have hk5 := Kept.refl W.drew.heap.size w5
      replace hE0 := Ext.trans hE0 hE1
      clear hE1
      go_wp2_with fail
      refine hKc.out _ _ ⟨p0_0, p0_1, p0_2, p1_0, p1_1, p1_2⟩ (fun hHeld => ?_)
      clear hKc Kc
      try simp only [Act.put, List.setIfInBounds_toArray, List.set_cons_zero, List.set_cons_succ]
      skip
      skip
      refine wpAnyH_ready (rs := [3, 4, 5]) (by as_aux_lemma => kernel_rfl) (by simp) ?_
      refine AllReadyH.cons rfl (fun Kc hKc => ?_) (AllReadyH.cons rfl (fun Kc hKc => ?_) (AllReadyH.cons rfl (fun Kc hKc => ?_) AllReadyH.nil))
      rotate_left 2
      focus
        refine Eq.mpr (if_pos (by as_aux_lemma => kernel_rfl)) ?_
        go_simp
        have hE1 : Ext w5 (w5.alloc (Obj.cells #[.bool false, .slice none 0 0, .slice none 0 0] 28)) := (Below.refl _ _).alloc (Nat.le_refl _) _
        have qb : Blk (w5.alloc (Obj.cells #[.bool false, .slice none 0 0, .slice none 0 0] 28)) w5.heap.size 28 #[.bool false, .slice none 0 0, .slice none 0 0] := Blk.new w5 28 #[.bool false, .slice none 0 0, .slice none 0 0]
        replace hE0 := Ext.trans hE0 hE1
        replace p0 := p0.ext hE1; replace p0_0 := p0.cell (i := 0) rfl; replace p0_1 := p0.cell (i := 1) rfl; replace p0_2 := p0.cell (i := 2) rfl; replace p1 := p1.ext hE1; replace p1_0 := p1.cell (i := 0) rfl; replace p1_1 := p1.cell (i := 1) rfl; replace p1_2 := p1.cell (i := 2) rfl
        replace hk5 := Kept.trans hk5 (Ext.kept hE1)
        have hs1 := hE1.size
        clear hE1
        refine hKc.out _ _ ⟨p0_0, p0_1, p0_2, p1_0, p1_1, p1_2⟩ (fun hHeld => ?_)
        clear hKc Kc
        try simp only [Act.put, List.setIfInBounds_toArray, List.set_cons_zero, List.set_cons_succ]
        have ltqB : w5.heap.size < (w5.alloc (Obj.cells #[.bool false, .slice none 0 0, .slice none 0 0] 28)).heap.size := qb.lt
        generalize (w5.alloc (Obj.cells #[.bool false, .slice none 0 0, .slice none 0 0] 28)) = w6 at *
        obtain ⟨qB, hqB⟩ : ∃ q, w5.heap.size = q := ⟨_, rfl⟩
        have geqB : w5.heap.size ≤ qB := Nat.le_of_eq hqB
        have leqB : qB ≤ w5.heap.size := Nat.le_of_eq hqB.symm
        rw [hqB] at qb ⊢
        clear hqB
        skip
        replace qb_0 := qb.cell (i := 0) rfl
        replace qb_1 := qb.cell (i := 1) rfl
        replace qb_2 := qb.cell (i := 2) rfl
        replace qb_f0 := qb.free 0
        replace qb_f1 := qb.free 1
        replace qb_f2 := qb.free 2
        replace qb_lt := qb.lt
        skip
        skip
        refine wpAnyH_ready (rs := [3, 4]) (by as_aux_lemma => kernel_rfl) (by simp) ?_
        refine AllReadyH.cons rfl (fun Kc hKc => ?_) (AllReadyH.cons rfl (fun Kc hKc => ?_) AllReadyH.nil)
        rotate_left 1
        focus
          refine Eq.mpr (if_pos (by as_aux_lemma => kernel_rfl)) ?_
          go_simp
          have hE1 : Ext w6 (w6.alloc (Obj.cells #[.bool false, .slice none 0 0, .slice none 0 0] 28)) := (Below.refl _ _).alloc (Nat.le_refl _) _
          have qa : Blk (w6.alloc (Obj.cells #[.bool false, .slice none 0 0, .slice none 0 0] 28)) w6.heap.size 28 #[.bool false, .slice none 0 0, .slice none 0 0] := Blk.new w6 28 #[.bool false, .slice none 0 0, .slice none 0 0]
          replace hE0 := Ext.trans hE0 hE1
          skip
          replace p0 := p0.ext hE1; replace p0_0 := p0.cell (i := 0) rfl; replace p0_1 := p0.cell (i := 1) rfl; replace p0_2 := p0.cell (i := 2) rfl; replace p1 := p1.ext hE1; replace p1_0 := p1.cell (i := 0) rfl; replace p1_1 := p1.cell (i := 1) rfl; replace p1_2 := p1.cell (i := 2) rfl; replace qb := qb.ext hE1; replace qb_0 := qb.cell (i := 0) rfl; replace qb_1 := qb.cell (i := 1) rfl; replace qb_2 := qb.cell (i := 2) rfl; replace qb_f0 := qb.free 0; replace qb_f1 := qb.free 1; replace qb_f2 := qb.free 2; replace qb_lt := qb.lt
          replace hk5 := Kept.trans hk5 (Ext.kept hE1)
          have hs2 := hE1.size
          clear hE1
          refine hKc.out _ _ ⟨p0_0, p0_1, p0_2, p1_0, p1_1, p1_2⟩ (fun hHeld => ?_)
          clear hKc Kc
          try simp only [Act.put, List.setIfInBounds_toArray, List.set_cons_zero, List.set_cons_succ]
          have ltqA : w6.heap.size < (w6.alloc (Obj.cells #[.bool false, .slice none 0 0, .slice none 0 0] 28)).heap.size := qa.lt
          generalize (w6.alloc (Obj.cells #[.bool false, .slice none 0 0, .slice none 0 0] 28)) = w7 at *
          obtain ⟨qA, hqA⟩ : ∃ q, w6.heap.size = q := ⟨_, rfl⟩
          have geqA : w6.heap.size ≤ qA := Nat.le_of_eq hqA
          have leqA : qA ≤ w6.heap.size := Nat.le_of_eq hqA.symm
          rw [hqA] at qa ⊢
          clear hqA
          skip
          replace qa_0 := qa.cell (i := 0) rfl
          replace qa_1 := qa.cell (i := 1) rfl
          replace qa_2 := qa.cell (i := 2) rfl
          replace qa_f0 := qa.free 0
          replace qa_f1 := qa.free 1
          replace qa_f2 := qa.free 2
          replace qa_lt := qa.lt
          skip
          skip
          refine stepD 3 rfl (by as_aux_lemma => kernel_rfl) (fun Kc hKc => ?_)
          refine Eq.mpr (if_pos (by as_aux_lemma => kernel_rfl)) ?_
          go_simp
          refine (copy_raw K (by omega) w7 b' a' a2' n' c' n2' c2' y.1 y.2 l' yss (HY.out.ext (Ext.trans hEW hE0)) HRY (by omega)).mono ?_
          rintro e w8 ⟨a5, c5, a6, c6, rfl, h6, hE1⟩
          have hs3 := hE1.size
          skip
          skip
          replace p0 := p0.ext hE1; replace p0_0 := p0.cell (i := 0) rfl; replace p0_1 := p0.cell (i := 1) rfl; replace p0_2 := p0.cell (i := 2) rfl; replace p1 := p1.ext hE1; replace p1_0 := p1.cell (i := 0) rfl; replace p1_1 := p1.cell (i := 1) rfl; replace p1_2 := p1.cell (i := 2) rfl; replace qa := qa.ext hE1; replace qa_0 := qa.cell (i := 0) rfl; replace qa_1 := qa.cell (i := 1) rfl; replace qa_2 := qa.cell (i := 2) rfl; replace qa_f0 := qa.free 0; replace qa_f1 := qa.free 1; replace qa_f2 := qa.free 2; replace qa_lt := qa.lt; replace qb := qb.ext hE1; replace qb_0 := qb.cell (i := 0) rfl; replace qb_1 := qb.cell (i := 1) rfl; replace qb_2 := qb.cell (i := 2) rfl; replace qb_f0 := qb.free 0; replace qb_f1 := qb.free 1; replace qb_f2 := qb.free 2; replace qb_lt := qb.lt
          have hk6 := Kept.refl w7.heap.size w8
          replace hk5 := Kept.trans hk5 (Ext.kept hE1)
          replace hE0 := Ext.trans hE0 hE1
          clear hE1
          go_wp2_with fail
          refine hKc.out _ _ ⟨p0_0, p0_1, p0_2, p1_0, p1_1, p1_2⟩ (fun hHeld => ?_)
          clear hKc Kc
          try simp only [Act.put, List.setIfInBounds_toArray, List.set_cons_zero, List.set_cons_succ]
          obtain ⟨wL, rfl⟩ : ∃ x : World, x = w8 := ⟨_, rfl⟩
        rotate_right 1
        focus
          refine Eq.mpr (if_pos (by as_aux_lemma => kernel_rfl)) ?_
          go_simp
          refine (copy_raw K (by omega) w6 b' a' a2' n' c' n2' c2' y.1 y.2 l' yss (HY.out.ext (Ext.trans hEW hE0)) HRY (by omega)).mono ?_
          rintro e w7 ⟨a5, c5, a6, c6, rfl, h6, hE1⟩
          have hs2 := hE1.size
          skip
          replace p0 := p0.ext hE1; replace p0_0 := p0.cell (i := 0) rfl; replace p0_1 := p0.cell (i := 1) rfl; replace p0_2 := p0.cell (i := 2) rfl; replace p1 := p1.ext hE1; replace p1_0 := p1.cell (i := 0) rfl; replace p1_1 := p1.cell (i := 1) rfl; replace p1_2 := p1.cell (i := 2) rfl; replace qb := qb.ext hE1; replace qb_0 := qb.cell (i := 0) rfl; replace qb_1 := qb.cell (i := 1) rfl; replace qb_2 := qb.cell (i := 2) rfl; replace qb_f0 := qb.free 0; replace qb_f1 := qb.free 1; replace qb_f2 := qb.free 2; replace qb_lt := qb.lt
          have hk6 := Kept.refl w6.heap.size w7
          replace hk5 := Kept.trans hk5 (Ext.kept hE1)
          replace hE0 := Ext.trans hE0 hE1
          clear hE1
          go_wp2_with fail
          refine hKc.out _ _ ⟨p0_0, p0_1, p0_2, p1_0, p1_1, p1_2⟩ (fun hHeld => ?_)
          clear hKc Kc
          try simp only [Act.put, List.setIfInBounds_toArray, List.set_cons_zero, List.set_cons_succ]
          skip
          skip
          refine stepD 4 rfl (by as_aux_lemma => kernel_rfl) (fun Kc hKc => ?_)
          refine Eq.mpr (if_pos (by as_aux_lemma => kernel_rfl)) ?_
          go_simp
          have hE1 : Ext w7 (w7.alloc (Obj.cells #[.bool false, .slice none 0 0, .slice none 0 0] 28)) := (Below.refl _ _).alloc (Nat.le_refl _) _
          have qa : Blk (w7.alloc (Obj.cells #[.bool false, .slice none 0 0, .slice none 0 0] 28)) w7.heap.size 28 #[.bool false, .slice none 0 0, .slice none 0 0] := Blk.new w7 28 #[.bool false, .slice none 0 0, .slice none 0 0]
          replace hE0 := Ext.trans hE0 hE1
          skip
          replace p0 := p0.ext hE1; replace p0_0 := p0.cell (i := 0) rfl; replace p0_1 := p0.cell (i := 1) rfl; replace p0_2 := p0.cell (i := 2) rfl; replace p1 := p1.ext hE1; replace p1_0 := p1.cell (i := 0) rfl; replace p1_1 := p1.cell (i := 1) rfl; replace p1_2 := p1.cell (i := 2) rfl; replace qb := qb.ext hE1; replace qb_0 := qb.cell (i := 0) rfl; replace qb_1 := qb.cell (i := 1) rfl; replace qb_2 := qb.cell (i := 2) rfl; replace qb_f0 := qb.free 0; replace qb_f1 := qb.free 1; replace qb_f2 := qb.free 2; replace qb_lt := qb.lt
          replace hk5 := Kept.trans hk5 (Ext.kept hE1)
          replace hk6 := Kept.trans hk6 (Ext.kept hE1)
          have hs3 := hE1.size
          clear hE1
          refine hKc.out _ _ ⟨p0_0, p0_1, p0_2, p1_0, p1_1, p1_2⟩ (fun hHeld => ?_)
          clear hKc Kc
          try simp only [Act.put, List.setIfInBounds_toArray, List.set_cons_zero, List.set_cons_succ]
          have ltqA : w7.heap.size < (w7.alloc (Obj.cells #[.bool false, .slice none 0 0, .slice none 0 0] 28)).heap.size := qa.lt
          generalize (w7.alloc (Obj.cells #[.bool false, .slice none 0 0, .slice none 0 0] 28)) = w8 at *
          obtain ⟨qA, hqA⟩ : ∃ q, w7.heap.size = q := ⟨_, rfl⟩
          have geqA : w7.heap.size ≤ qA := Nat.le_of_eq hqA
          have leqA : qA ≤ w7.heap.size := Nat.le_of_eq hqA.symm
          rw [hqA] at qa ⊢
          clear hqA
          skip
          replace qa_0 := qa.cell (i := 0) rfl
          replace qa_1 := qa.cell (i := 1) rfl
          replace qa_2 := qa.cell (i := 2) rfl
          replace qa_f0 := qa.free 0
          replace qa_f1 := qa.free 1
          replace qa_f2 := qa.free 2
          replace qa_lt := qa.lt
          obtain ⟨wL, rfl⟩ : ∃ x : World, x = w8 := ⟨_, rfl⟩
      rotate_right 2
      rotate_left 1
      focus
        refine Eq.mpr (if_pos (by as_aux_lemma => kernel_rfl)) ?_
        go_simp
        have hE1 : Ext w5 (w5.alloc (Obj.cells #[.bool false, .slice none 0 0, .slice none 0 0] 28)) := (Below.refl _ _).alloc (Nat.le_refl _) _
        have qa : Blk (w5.alloc (Obj.cells #[.bool false, .slice none 0 0, .slice none 0 0] 28)) w5.heap.size 28 #[.bool false, .slice none 0 0, .slice none 0 0] := Blk.new w5 28 #[.bool false, .slice none 0 0, .slice none 0 0]
        replace hE0 := Ext.trans hE0 hE1
        replace p0 := p0.ext hE1; replace p0_0 := p0.cell (i := 0) rfl; replace p0_1 := p0.cell (i := 1) rfl; replace p0_2 := p0.cell (i := 2) rfl; replace p1 := p1.ext hE1; replace p1_0 := p1.cell (i := 0) rfl; replace p1_1 := p1.cell (i := 1) rfl; replace p1_2 := p1.cell (i := 2) rfl
        replace hk5 := Kept.trans hk5 (Ext.kept hE1)
        have hs1 := hE1.size
        clear hE1
        refine hKc.out _ _ ⟨p0_0, p0_1, p0_2, p1_0, p1_1, p1_2⟩ (fun hHeld => ?_)
        clear hKc Kc
        try simp only [Act.put, List.setIfInBounds_toArray, List.set_cons_zero, List.set_cons_succ]
        have ltqA : w5.heap.size < (w5.alloc (Obj.cells #[.bool false, .slice none 0 0, .slice none 0 0] 28)).heap.size := qa.lt
        generalize (w5.alloc (Obj.cells #[.bool false, .slice none 0 0, .slice none 0 0] 28)) = w6 at *
        obtain ⟨qA, hqA⟩ : ∃ q, w5.heap.size = q := ⟨_, rfl⟩
        have geqA : w5.heap.size ≤ qA := Nat.le_of_eq hqA
        have leqA : qA ≤ w5.heap.size := Nat.le_of_eq hqA.symm
        rw [hqA] at qa ⊢
        clear hqA
        skip
        replace qa_0 := qa.cell (i := 0) rfl
        replace qa_1 := qa.cell (i := 1) rfl
        replace qa_2 := qa.cell (i := 2) rfl
        replace qa_f0 := qa.free 0
        replace qa_f1 := qa.free 1
        replace qa_f2 := qa.free 2
        replace qa_lt := qa.lt
        skip
        skip
        refine wpAnyH_ready (rs := [3, 5]) (by as_aux_lemma => kernel_rfl) (by simp) ?_
        refine AllReadyH.cons rfl (fun Kc hKc => ?_) (AllReadyH.cons rfl (fun Kc hKc => ?_) AllReadyH.nil)
        rotate_left 1
        focus
          refine Eq.mpr (if_pos (by as_aux_lemma => kernel_rfl)) ?_
          go_simp
          have hE1 : Ext w6 (w6.alloc (Obj.cells #[.bool false, .slice none 0 0, .slice none 0 0] 28)) := (Below.refl _ _).alloc (Nat.le_refl _) _
          have qb : Blk (w6.alloc (Obj.cells #[.bool false, .slice none 0 0, .slice none 0 0] 28)) w6.heap.size 28 #[.bool false, .slice none 0 0, .slice none 0 0] := Blk.new w6 28 #[.bool false, .slice none 0 0, .slice none 0 0]
          replace hE0 := Ext.trans hE0 hE1
          skip
          replace p0 := p0.ext hE1; replace p0_0 := p0.cell (i := 0) rfl; replace p0_1 := p0.cell (i := 1) rfl; replace p0_2 := p0.cell (i := 2) rfl; replace p1 := p1.ext hE1; replace p1_0 := p1.cell (i := 0) rfl; replace p1_1 := p1.cell (i := 1) rfl; replace p1_2 := p1.cell (i := 2) rfl; replace qa := qa.ext hE1; replace qa_0 := qa.cell (i := 0) rfl; replace qa_1 := qa.cell (i := 1) rfl; replace qa_2 := qa.cell (i := 2) rfl; replace qa_f0 := qa.free 0; replace qa_f1 := qa.free 1; replace qa_f2 := qa.free 2; replace qa_lt := qa.lt
          replace hk5 := Kept.trans hk5 (Ext.kept hE1)
          have hs2 := hE1.size
          clear hE1
          refine hKc.out _ _ ⟨p0_0, p0_1, p0_2, p1_0, p1_1, p1_2⟩ (fun hHeld => ?_)
          clear hKc Kc
          try simp only [Act.put, List.setIfInBounds_toArray, List.set_cons_zero, List.set_cons_succ]
          have ltqB : w6.heap.size < (w6.alloc (Obj.cells #[.bool false, .slice none 0 0, .slice none 0 0] 28)).heap.size := qb.lt
          generalize (w6.alloc (Obj.cells #[.bool false, .slice none 0 0, .slice none 0 0] 28)) = w7 at *
          obtain ⟨qB, hqB⟩ : ∃ q, w6.heap.size = q := ⟨_, rfl⟩
          have geqB : w6.heap.size ≤ qB := Nat.le_of_eq hqB
          have leqB : qB ≤ w6.heap.size := Nat.le_of_eq hqB.symm
          rw [hqB] at qb ⊢
          clear hqB
          skip
          replace qb_0 := qb.cell (i := 0) rfl
          replace qb_1 := qb.cell (i := 1) rfl
          replace qb_2 := qb.cell (i := 2) rfl
          replace qb_f0 := qb.free 0
          replace qb_f1 := qb.free 1
          replace qb_f2 := qb.free 2
          replace qb_lt := qb.lt
          skip
          skip
          refine stepD 3 rfl (by as_aux_lemma => kernel_rfl) (fun Kc hKc => ?_)
          refine Eq.mpr (if_pos (by as_aux_lemma => kernel_rfl)) ?_
          go_simp
          refine (copy_raw K (by omega) w7 b' a' a2' n' c' n2' c2' y.1 y.2 l' yss (HY.out.ext (Ext.trans hEW hE0)) HRY (by omega)).mono ?_
          rintro e w8 ⟨a5, c5, a6, c6, rfl, h6, hE1⟩
          have hs3 := hE1.size
          skip
          skip
          replace p0 := p0.ext hE1; replace p0_0 := p0.cell (i := 0) rfl; replace p0_1 := p0.cell (i := 1) rfl; replace p0_2 := p0.cell (i := 2) rfl; replace p1 := p1.ext hE1; replace p1_0 := p1.cell (i := 0) rfl; replace p1_1 := p1.cell (i := 1) rfl; replace p1_2 := p1.cell (i := 2) rfl; replace qa := qa.ext hE1; replace qa_0 := qa.cell (i := 0) rfl; replace qa_1 := qa.cell (i := 1) rfl; replace qa_2 := qa.cell (i := 2) rfl; replace qa_f0 := qa.free 0; replace qa_f1 := qa.free 1; replace qa_f2 := qa.free 2; replace qa_lt := qa.lt; replace qb := qb.ext hE1; replace qb_0 := qb.cell (i := 0) rfl; replace qb_1 := qb.cell (i := 1) rfl; replace qb_2 := qb.cell (i := 2) rfl; replace qb_f0 := qb.free 0; replace qb_f1 := qb.free 1; replace qb_f2 := qb.free 2; replace qb_lt := qb.lt
          have hk6 := Kept.refl w7.heap.size w8
          replace hk5 := Kept.trans hk5 (Ext.kept hE1)
          replace hE0 := Ext.trans hE0 hE1
          clear hE1
          go_wp2_with fail
          refine hKc.out _ _ ⟨p0_0, p0_1, p0_2, p1_0, p1_1, p1_2⟩ (fun hHeld => ?_)
          clear hKc Kc
          try simp only [Act.put, List.setIfInBounds_toArray, List.set_cons_zero, List.set_cons_succ]
          obtain ⟨wL, rfl⟩ : ∃ x : World, x = w8 := ⟨_, rfl⟩
        rotate_right 1
        focus
          refine Eq.mpr (if_pos (by as_aux_lemma => kernel_rfl)) ?_
          go_simp
          refine (copy_raw K (by omega) w6 b' a' a2' n' c' n2' c2' y.1 y.2 l' yss (HY.out.ext (Ext.trans hEW hE0)) HRY (by omega)).mono ?_
          rintro e w7 ⟨a5, c5, a6, c6, rfl, h6, hE1⟩
          have hs2 := hE1.size
          skip
          replace p0 := p0.ext hE1; replace p0_0 := p0.cell (i := 0) rfl; replace p0_1 := p0.cell (i := 1) rfl; replace p0_2 := p0.cell (i := 2) rfl; replace p1 := p1.ext hE1; replace p1_0 := p1.cell (i := 0) rfl; replace p1_1 := p1.cell (i := 1) rfl; replace p1_2 := p1.cell (i := 2) rfl; replace qa := qa.ext hE1; replace qa_0 := qa.cell (i := 0) rfl; replace qa_1 := qa.cell (i := 1) rfl; replace qa_2 := qa.cell (i := 2) rfl; replace qa_f0 := qa.free 0; replace qa_f1 := qa.free 1; replace qa_f2 := qa.free 2; replace qa_lt := qa.lt
          have hk6 := Kept.refl w6.heap.size w7
          replace hk5 := Kept.trans hk5 (Ext.kept hE1)
          replace hE0 := Ext.trans hE0 hE1
          clear hE1
          go_wp2_with fail
          refine hKc.out _ _ ⟨p0_0, p0_1, p0_2, p1_0, p1_1, p1_2⟩ (fun hHeld => ?_)
          clear hKc Kc
          try simp only [Act.put, List.setIfInBounds_toArray, List.set_cons_zero, List.set_cons_succ]
          skip
          skip
          refine stepD 5 rfl (by as_aux_lemma => kernel_rfl) (fun Kc hKc => ?_)
          refine Eq.mpr (if_pos (by as_aux_lemma => kernel_rfl)) ?_
          go_simp
          have hE1 : Ext w7 (w7.alloc (Obj.cells #[.bool false, .slice none 0 0, .slice none 0 0] 28)) := (Below.refl _ _).alloc (Nat.le_refl _) _
          have qb : Blk (w7.alloc (Obj.cells #[.bool false, .slice none 0 0, .slice none 0 0] 28)) w7.heap.size 28 #[.bool false, .slice none 0 0, .slice none 0 0] := Blk.new w7 28 #[.bool false, .slice none 0 0, .slice none 0 0]
          replace hE0 := Ext.trans hE0 hE1
          skip
          replace p0 := p0.ext hE1; replace p0_0 := p0.cell (i := 0) rfl; replace p0_1 := p0.cell (i := 1) rfl; replace p0_2 := p0.cell (i := 2) rfl; replace p1 := p1.ext hE1; replace p1_0 := p1.cell (i := 0) rfl; replace p1_1 := p1.cell (i := 1) rfl; replace p1_2 := p1.cell (i := 2) rfl; replace qa := qa.ext hE1; replace qa_0 := qa.cell (i := 0) rfl; replace qa_1 := qa.cell (i := 1) rfl; replace qa_2 := qa.cell (i := 2) rfl; replace qa_f0 := qa.free 0; replace qa_f1 := qa.free 1; replace qa_f2 := qa.free 2; replace qa_lt := qa.lt
          replace hk5 := Kept.trans hk5 (Ext.kept hE1)
          replace hk6 := Kept.trans hk6 (Ext.kept hE1)
          have hs3 := hE1.size
          clear hE1
          refine hKc.out _ _ ⟨p0_0, p0_1, p0_2, p1_0, p1_1, p1_2⟩ (fun hHeld => ?_)
          clear hKc Kc
          try simp only [Act.put, List.setIfInBounds_toArray, List.set_cons_zero, List.set_cons_succ]
          have ltqB : w7.heap.size < (w7.alloc (Obj.cells #[.bool false, .slice none 0 0, .slice none 0 0] 28)).heap.size := qb.lt
          generalize (w7.alloc (Obj.cells #[.bool false, .slice none 0 0, .slice none 0 0] 28)) = w8 at *
          obtain ⟨qB, hqB⟩ : ∃ q, w7.heap.size = q := ⟨_, rfl⟩
          have geqB : w7.heap.size ≤ qB := Nat.le_of_eq hqB
          have leqB : qB ≤ w7.heap.size := Nat.le_of_eq hqB.symm
          rw [hqB] at qb ⊢
          clear hqB
          skip
          replace qb_0 := qb.cell (i := 0) rfl
          replace qb_1 := qb.cell (i := 1) rfl
          replace qb_2 := qb.cell (i := 2) rfl
          replace qb_f0 := qb.free 0
          replace qb_f1 := qb.free 1
          replace qb_f2 := qb.free 2
          replace qb_lt := qb.lt
          obtain ⟨wL, rfl⟩ : ∃ x : World, x = w8 := ⟨_, rfl⟩
      rotate_right 1
      focus
        refine Eq.mpr (if_pos (by as_aux_lemma => kernel_rfl)) ?_
        go_simp
        refine (copy_raw K (by omega) w5 b' a' a2' n' c' n2' c2' y.1 y.2 l' yss (HY.out.ext (Ext.trans hEW hE0)) HRY (by omega)).mono ?_
        rintro e w6 ⟨a5, c5, a6, c6, rfl, h6, hE1⟩
        have hs1 := hE1.size
        replace p0 := p0.ext hE1; replace p0_0 := p0.cell (i := 0) rfl; replace p0_1 := p0.cell (i := 1) rfl; replace p0_2 := p0.cell (i := 2) rfl; replace p1 := p1.ext hE1; replace p1_0 := p1.cell (i := 0) rfl; replace p1_1 := p1.cell (i := 1) rfl; replace p1_2 := p1.cell (i := 2) rfl
        have hk6 := Kept.refl w5.heap.size w6
        replace hk5 := Kept.trans hk5 (Ext.kept hE1)
        replace hE0 := Ext.trans hE0 hE1
        clear hE1
        go_wp2_with fail
        refine hKc.out _ _ ⟨p0_0, p0_1, p0_2, p1_0, p1_1, p1_2⟩ (fun hHeld => ?_)
        clear hKc Kc
        try simp only [Act.put, List.setIfInBounds_toArray, List.set_cons_zero, List.set_cons_succ]
        skip
        skip
        refine wpAnyH_ready (rs := [4, 5]) (by as_aux_lemma => kernel_rfl) (by simp) ?_
        refine AllReadyH.cons rfl (fun Kc hKc => ?_) (AllReadyH.cons rfl (fun Kc hKc => ?_) AllReadyH.nil)
        rotate_left 1
        focus
          refine Eq.mpr (if_pos (by as_aux_lemma => kernel_rfl)) ?_
          go_simp
          have hE1 : Ext w6 (w6.alloc (Obj.cells #[.bool false, .slice none 0 0, .slice none 0 0] 28)) := (Below.refl _ _).alloc (Nat.le_refl _) _
          have qb : Blk (w6.alloc (Obj.cells #[.bool false, .slice none 0 0, .slice none 0 0] 28)) w6.heap.size 28 #[.bool false, .slice none 0 0, .slice none 0 0] := Blk.new w6 28 #[.bool false, .slice none 0 0, .slice none 0 0]
          replace hE0 := Ext.trans hE0 hE1
          replace p0 := p0.ext hE1; replace p0_0 := p0.cell (i := 0) rfl; replace p0_1 := p0.cell (i := 1) rfl; replace p0_2 := p0.cell (i := 2) rfl; replace p1 := p1.ext hE1; replace p1_0 := p1.cell (i := 0) rfl; replace p1_1 := p1.cell (i := 1) rfl; replace p1_2 := p1.cell (i := 2) rfl
          replace hk5 := Kept.trans hk5 (Ext.kept hE1)
          replace hk6 := Kept.trans hk6 (Ext.kept hE1)
          have hs2 := hE1.size
          clear hE1
          refine hKc.out _ _ ⟨p0_0, p0_1, p0_2, p1_0, p1_1, p1_2⟩ (fun hHeld => ?_)
          clear hKc Kc
          try simp only [Act.put, List.setIfInBounds_toArray, List.set_cons_zero, List.set_cons_succ]
          have ltqB : w6.heap.size < (w6.alloc (Obj.cells #[.bool false, .slice none 0 0, .slice none 0 0] 28)).heap.size := qb.lt
          generalize (w6.alloc (Obj.cells #[.bool false, .slice none 0 0, .slice none 0 0] 28)) = w7 at *
          obtain ⟨qB, hqB⟩ : ∃ q, w6.heap.size = q := ⟨_, rfl⟩
          have geqB : w6.heap.size ≤ qB := Nat.le_of_eq hqB
          have leqB : qB ≤ w6.heap.size := Nat.le_of_eq hqB.symm
          rw [hqB] at qb ⊢
          clear hqB
          skip
          replace qb_0 := qb.cell (i := 0) rfl
          replace qb_1 := qb.cell (i := 1) rfl
          replace qb_2 := qb.cell (i := 2) rfl
          replace qb_f0 := qb.free 0
          replace qb_f1 := qb.free 1
          replace qb_f2 := qb.free 2
          replace qb_lt := qb.lt
          skip
          skip
          refine stepD 4 rfl (by as_aux_lemma => kernel_rfl) (fun Kc hKc => ?_)
          refine Eq.mpr (if_pos (by as_aux_lemma => kernel_rfl)) ?_
          go_simp
          have hE1 : Ext w7 (w7.alloc (Obj.cells #[.bool false, .slice none 0 0, .slice none 0 0] 28)) := (Below.refl _ _).alloc (Nat.le_refl _) _
          have qa : Blk (w7.alloc (Obj.cells #[.bool false, .slice none 0 0, .slice none 0 0] 28)) w7.heap.size 28 #[.bool false, .slice none 0 0, .slice none 0 0] := Blk.new w7 28 #[.bool false, .slice none 0 0, .slice none 0 0]
          replace hE0 := Ext.trans hE0 hE1
          skip
          replace p0 := p0.ext hE1; replace p0_0 := p0.cell (i := 0) rfl; replace p0_1 := p0.cell (i := 1) rfl; replace p0_2 := p0.cell (i := 2) rfl; replace p1 := p1.ext hE1; replace p1_0 := p1.cell (i := 0) rfl; replace p1_1 := p1.cell (i := 1) rfl; replace p1_2 := p1.cell (i := 2) rfl; replace qb := qb.ext hE1; replace qb_0 := qb.cell (i := 0) rfl; replace qb_1 := qb.cell (i := 1) rfl; replace qb_2 := qb.cell (i := 2) rfl; replace qb_f0 := qb.free 0; replace qb_f1 := qb.free 1; replace qb_f2 := qb.free 2; replace qb_lt := qb.lt
          replace hk5 := Kept.trans hk5 (Ext.kept hE1)
          replace hk6 := Kept.trans hk6 (Ext.kept hE1)
          have hs3 := hE1.size
          clear hE1
          refine hKc.out _ _ ⟨p0_0, p0_1, p0_2, p1_0, p1_1, p1_2⟩ (fun hHeld => ?_)
          clear hKc Kc
          try simp only [Act.put, List.setIfInBounds_toArray, List.set_cons_zero, List.set_cons_succ]
          have ltqA : w7.heap.size < (w7.alloc (Obj.cells #[.bool false, .slice none 0 0, .slice none 0 0] 28)).heap.size := qa.lt
          generalize (w7.alloc (Obj.cells #[.bool false, .slice none 0 0, .slice none 0 0] 28)) = w8 at *
          obtain ⟨qA, hqA⟩ : ∃ q, w7.heap.size = q := ⟨_, rfl⟩
          have geqA : w7.heap.size ≤ qA := Nat.le_of_eq hqA
          have leqA : qA ≤ w7.heap.size := Nat.le_of_eq hqA.symm
          rw [hqA] at qa ⊢
          clear hqA
          skip
          replace qa_0 := qa.cell (i := 0) rfl
          replace qa_1 := qa.cell (i := 1) rfl
          replace qa_2 := qa.cell (i := 2) rfl
          replace qa_f0 := qa.free 0
          replace qa_f1 := qa.free 1
          replace qa_f2 := qa.free 2
          replace qa_lt := qa.lt
          obtain ⟨wL, rfl⟩ : ∃ x : World, x = w8 := ⟨_, rfl⟩
        rotate_right 1
        focus
          refine Eq.mpr (if_pos (by as_aux_lemma => kernel_rfl)) ?_
          go_simp
          have hE1 : Ext w6 (w6.alloc (Obj.cells #[.bool false, .slice none 0 0, .slice none 0 0] 28)) := (Below.refl _ _).alloc (Nat.le_refl _) _
          have qa : Blk (w6.alloc (Obj.cells #[.bool false, .slice none 0 0, .slice none 0 0] 28)) w6.heap.size 28 #[.bool false, .slice none 0 0, .slice none 0 0] := Blk.new w6 28 #[.bool false, .slice none 0 0, .slice none 0 0]
          replace hE0 := Ext.trans hE0 hE1
          replace p0 := p0.ext hE1; replace p0_0 := p0.cell (i := 0) rfl; replace p0_1 := p0.cell (i := 1) rfl; replace p0_2 := p0.cell (i := 2) rfl; replace p1 := p1.ext hE1; replace p1_0 := p1.cell (i := 0) rfl; replace p1_1 := p1.cell (i := 1) rfl; replace p1_2 := p1.cell (i := 2) rfl
          replace hk5 := Kept.trans hk5 (Ext.kept hE1)
          replace hk6 := Kept.trans hk6 (Ext.kept hE1)
          have hs2 := hE1.size
          clear hE1
          refine hKc.out _ _ ⟨p0_0, p0_1, p0_2, p1_0, p1_1, p1_2⟩ (fun hHeld => ?_)
          clear hKc Kc
          try simp only [Act.put, List.setIfInBounds_toArray, List.set_cons_zero, List.set_cons_succ]
          have ltqA : w6.heap.size < (w6.alloc (Obj.cells #[.bool false, .slice none 0 0, .slice none 0 0] 28)).heap.size := qa.lt
          generalize (w6.alloc (Obj.cells #[.bool false, .slice none 0 0, .slice none 0 0] 28)) = w7 at *
          obtain ⟨qA, hqA⟩ : ∃ q, w6.heap.size = q := ⟨_, rfl⟩
          have geqA : w6.heap.size ≤ qA := Nat.le_of_eq hqA
          have leqA : qA ≤ w6.heap.size := Nat.le_of_eq hqA.symm
          rw [hqA] at qa ⊢
          clear hqA
          skip
          replace qa_0 := qa.cell (i := 0) rfl
          replace qa_1 := qa.cell (i := 1) rfl
          replace qa_2 := qa.cell (i := 2) rfl
          replace qa_f0 := qa.free 0
          replace qa_f1 := qa.free 1
          replace qa_f2 := qa.free 2
          replace qa_lt := qa.lt
          skip
          skip
          refine stepD 5 rfl (by as_aux_lemma => kernel_rfl) (fun Kc hKc => ?_)
          refine Eq.mpr (if_pos (by as_aux_lemma => kernel_rfl)) ?_
          go_simp
          have hE1 : Ext w7 (w7.alloc (Obj.cells #[.bool false, .slice none 0 0, .slice none 0 0] 28)) := (Below.refl _ _).alloc (Nat.le_refl _) _
          have qb : Blk (w7.alloc (Obj.cells #[.bool false, .slice none 0 0, .slice none 0 0] 28)) w7.heap.size 28 #[.bool false, .slice none 0 0, .slice none 0 0] := Blk.new w7 28 #[.bool false, .slice none 0 0, .slice none 0 0]
          replace hE0 := Ext.trans hE0 hE1
          skip
          replace p0 := p0.ext hE1; replace p0_0 := p0.cell (i := 0) rfl; replace p0_1 := p0.cell (i := 1) rfl; replace p0_2 := p0.cell (i := 2) rfl; replace p1 := p1.ext hE1; replace p1_0 := p1.cell (i := 0) rfl; replace p1_1 := p1.cell (i := 1) rfl; replace p1_2 := p1.cell (i := 2) rfl; replace qa := qa.ext hE1; replace qa_0 := qa.cell (i := 0) rfl; replace qa_1 := qa.cell (i := 1) rfl; replace qa_2 := qa.cell (i := 2) rfl; replace qa_f0 := qa.free 0; replace qa_f1 := qa.free 1; replace qa_f2 := qa.free 2; replace qa_lt := qa.lt
          replace hk5 := Kept.trans hk5 (Ext.kept hE1)
          replace hk6 := Kept.trans hk6 (Ext.kept hE1)
          have hs3 := hE1.size
          clear hE1
          refine hKc.out _ _ ⟨p0_0, p0_1, p0_2, p1_0, p1_1, p1_2⟩ (fun hHeld => ?_)
          clear hKc Kc
          try simp only [Act.put, List.setIfInBounds_toArray, List.set_cons_zero, List.set_cons_succ]
          have ltqB : w7.heap.size < (w7.alloc (Obj.cells #[.bool false, .slice none 0 0, .slice none 0 0] 28)).heap.size := qb.lt
          generalize (w7.alloc (Obj.cells #[.bool false, .slice none 0 0, .slice none 0 0] 28)) = w8 at *
          obtain ⟨qB, hqB⟩ : ∃ q, w7.heap.size = q := ⟨_, rfl⟩
          have geqB : w7.heap.size ≤ qB := Nat.le_of_eq hqB
          have leqB : qB ≤ w7.heap.size := Nat.le_of_eq hqB.symm
          rw [hqB] at qb ⊢
          clear hqB
          skip
          replace qb_0 := qb.cell (i := 0) rfl
          replace qb_1 := qb.cell (i := 1) rfl
          replace qb_2 := qb.cell (i := 2) rfl
          replace qb_f0 := qb.free 0
          replace qb_f1 := qb.free 1
          replace qb_f2 := qb.free 2
          replace qb_lt := qb.lt
          obtain ⟨wL, rfl⟩ : ∃ x : World, x = w8 := ⟨_, rfl⟩
    all_goals
      have ne1 : w.heap.size ≠ qA := by omega
      have ne2 : w.heap.size + 1 ≠ qA := by omega
      have ne3 : w.heap.size ≠ qB := by omega
      have ne4 : w.heap.size + 1 ≠ qB := by omega
      have ne5 : qA ≠ qB := by omega
      have ne6 : qB ≠ qA := by omega
      skip
      skip
      refine stepD 6 rfl (by as_aux_lemma => kernel_rfl) (fun Kc hKc => ?_)
      refine Eq.mpr (if_pos (by as_aux_lemma => kernel_rfl)) ?_
      go_simp
      replace qa := qa.set 0 (.bool b)
      replace p0 := p0.set_ne 0 (.bool b) (show w.heap.size ≠ qA by omega)
      replace p1 := p1.set_ne 0 (.bool b) (show w.heap.size + 1 ≠ qA by omega)
      replace qb := qb.set_ne 0 (.bool b) (show qB ≠ qA by omega)
      replace qa := qa.set 1 (.slice a3 n c3)
      replace p0 := p0.set_ne 1 (.slice a3 n c3) (show w.heap.size ≠ qA by omega)
      replace p1 := p1.set_ne 1 (.slice a3 n c3) (show w.heap.size + 1 ≠ qA by omega)
      replace qb := qb.set_ne 1 (.slice a3 n c3) (show qB ≠ qA by omega)
      replace qa := qa.set 2 (.slice a4 n2 c4)
      replace p0 := p0.set_ne 2 (.slice a4 n2 c4) (show w.heap.size ≠ qA by omega)
      replace p1 := p1.set_ne 2 (.slice a4 n2 c4) (show w.heap.size + 1 ≠ qA by omega)
      replace qb := qb.set_ne 2 (.slice a4 n2 c4) (show qB ≠ qA by omega)
      have hKW8 : ∀ bB_ : Nat, qA < bB_ → Kept bB_ wL ((((wL).setCell ⟨qA, 0, none⟩ (.bool b)).setCell ⟨qA, 1, none⟩ (.slice a3 n c3)).setCell ⟨qA, 2, none⟩ (.slice a4 n2 c4)) := fun bB_ h0 => (Kept.trans (kept_set _ _ _ h0) (Kept.trans (kept_set _ _ _ h0) (kept_set _ _ _ h0)))
      have hzW8 : wL.heap.size ≤ ((((wL).setCell ⟨qA, 0, none⟩ (.bool b)).setCell ⟨qA, 1, none⟩ (.slice a3 n c3)).setCell ⟨qA, 2, none⟩ (.slice a4 n2 c4)).heap.size := by simp only [World.setCell, Array.size_modify]; exact Nat.le_refl _
      have hSW8 : ∀ (nB_ : Nat) (uB_ : World), nB_ ≤ qA → Below nB_ uB_ wL → Below nB_ uB_ ((((wL).setCell ⟨qA, 0, none⟩ (.bool b)).setCell ⟨qA, 1, none⟩ (.slice a3 n c3)).setCell ⟨qA, 2, none⟩ (.slice a4 n2 c4)) := fun nB_ uB_ h0 hb => (Below.setCell (Below.setCell (Below.setCell hb (p := ⟨qA, 0, none⟩) h0 (.bool b)) (p := ⟨qA, 1, none⟩) h0 (.slice a3 n c3)) (p := ⟨qA, 2, none⟩) h0 (.slice a4 n2 c4))
      have hTW8 : ∀ (bB_ : Nat) (uB_ : World), (qA < bB_ ∨ uB_.heap.size ≤ qA) → Kept bB_ uB_ wL → Kept bB_ uB_ ((((wL).setCell ⟨qA, 0, none⟩ (.bool b)).setCell ⟨qA, 1, none⟩ (.slice a3 n c3)).setCell ⟨qA, 2, none⟩ (.slice a4 n2 c4)) := fun bB_ uB_ h0 hb => (kept_step (kept_step (kept_step hb h0) h0) h0)
      replace qa : Blk ((((wL).setCell ⟨qA, 0, none⟩ (.bool b)).setCell ⟨qA, 1, none⟩ (.slice a3 n c3)).setCell ⟨qA, 2, none⟩ (.slice a4 n2 c4)) (qA) 28 #[.bool b, .slice a3 n c3, .slice a4 n2 c4] := qa
      generalize hgW8 : (((wL).setCell ⟨qA, 0, none⟩ (.bool b)).setCell ⟨qA, 1, none⟩ (.slice a3 n c3)).setCell ⟨qA, 2, none⟩ (.slice a4 n2 c4) = W8 at *
      clear hgW8
      replace qa_0 := qa.cell (i := 0) rfl
      replace qa_1 := qa.cell (i := 1) rfl
      replace qa_2 := qa.cell (i := 2) rfl
      replace qa_f0 := qa.free 0
      replace qa_f1 := qa.free 1
      replace qa_f2 := qa.free 2
      replace qa_lt := qa.lt
      replace p0_0 := p0.cell (i := 0) rfl
      replace p0_1 := p0.cell (i := 1) rfl
      replace p0_2 := p0.cell (i := 2) rfl
      replace p1_0 := p1.cell (i := 0) rfl
      replace p1_1 := p1.cell (i := 1) rfl
      replace p1_2 := p1.cell (i := 2) rfl
      replace qb_0 := qb.cell (i := 0) rfl
      replace qb_1 := qb.cell (i := 1) rfl
      replace qb_2 := qb.cell (i := 2) rfl
      replace qb_f0 := qb.free 0
      replace qb_f1 := qb.free 1
      replace qb_f2 := qb.free 2
      replace qb_lt := qb.lt
      refine hKc.out _ _ ⟨p0_0, p0_1, p0_2, p1_0, p1_1, p1_2⟩ (fun hHeld => ?_)
      clear hKc Kc
      try simp only [Act.put, List.setIfInBounds_toArray, List.set_cons_zero, List.set_cons_succ]
      refine stepD 7 rfl (by as_aux_lemma => kernel_rfl) (fun Kc hKc => ?_)
      refine Eq.mpr (if_pos (by as_aux_lemma => kernel_rfl)) ?_
      go_simp
      replace qb := qb.set 0 (.bool b')
      replace p0 := p0.set_ne 0 (.bool b') (show w.heap.size ≠ qB by omega)
      replace p1 := p1.set_ne 0 (.bool b') (show w.heap.size + 1 ≠ qB by omega)
      replace qa := qa.set_ne 0 (.bool b') (show qA ≠ qB by omega)
      replace qb := qb.set 1 (.slice a5 n' c5)
      replace p0 := p0.set_ne 1 (.slice a5 n' c5) (show w.heap.size ≠ qB by omega)
      replace p1 := p1.set_ne 1 (.slice a5 n' c5) (show w.heap.size + 1 ≠ qB by omega)
      replace qa := qa.set_ne 1 (.slice a5 n' c5) (show qA ≠ qB by omega)
      replace qb := qb.set 2 (.slice a6 n2' c6)
      replace p0 := p0.set_ne 2 (.slice a6 n2' c6) (show w.heap.size ≠ qB by omega)
      replace p1 := p1.set_ne 2 (.slice a6 n2' c6) (show w.heap.size + 1 ≠ qB by omega)
      replace qa := qa.set_ne 2 (.slice a6 n2' c6) (show qA ≠ qB by omega)
      have hKW9 : ∀ bB_ : Nat, qB < bB_ → Kept bB_ W8 ((((W8).setCell ⟨qB, 0, none⟩ (.bool b')).setCell ⟨qB, 1, none⟩ (.slice a5 n' c5)).setCell ⟨qB, 2, none⟩ (.slice a6 n2' c6)) := fun bB_ h0 => (Kept.trans (kept_set _ _ _ h0) (Kept.trans (kept_set _ _ _ h0) (kept_set _ _ _ h0)))
      have hzW9 : W8.heap.size ≤ ((((W8).setCell ⟨qB, 0, none⟩ (.bool b')).setCell ⟨qB, 1, none⟩ (.slice a5 n' c5)).setCell ⟨qB, 2, none⟩ (.slice a6 n2' c6)).heap.size := by simp only [World.setCell, Array.size_modify]; exact Nat.le_refl _
      have hSW9 : ∀ (nB_ : Nat) (uB_ : World), nB_ ≤ qB → Below nB_ uB_ W8 → Below nB_ uB_ ((((W8).setCell ⟨qB, 0, none⟩ (.bool b')).setCell ⟨qB, 1, none⟩ (.slice a5 n' c5)).setCell ⟨qB, 2, none⟩ (.slice a6 n2' c6)) := fun nB_ uB_ h0 hb => (Below.setCell (Below.setCell (Below.setCell hb (p := ⟨qB, 0, none⟩) h0 (.bool b')) (p := ⟨qB, 1, none⟩) h0 (.slice a5 n' c5)) (p := ⟨qB, 2, none⟩) h0 (.slice a6 n2' c6))
      have hTW9 : ∀ (bB_ : Nat) (uB_ : World), (qB < bB_ ∨ uB_.heap.size ≤ qB) → Kept bB_ uB_ W8 → Kept bB_ uB_ ((((W8).setCell ⟨qB, 0, none⟩ (.bool b')).setCell ⟨qB, 1, none⟩ (.slice a5 n' c5)).setCell ⟨qB, 2, none⟩ (.slice a6 n2' c6)) := fun bB_ uB_ h0 hb => (kept_step (kept_step (kept_step hb h0) h0) h0)
      replace qb : Blk ((((W8).setCell ⟨qB, 0, none⟩ (.bool b')).setCell ⟨qB, 1, none⟩ (.slice a5 n' c5)).setCell ⟨qB, 2, none⟩ (.slice a6 n2' c6)) (qB) 28 #[.bool b', .slice a5 n' c5, .slice a6 n2' c6] := qb
      generalize hgW9 : (((W8).setCell ⟨qB, 0, none⟩ (.bool b')).setCell ⟨qB, 1, none⟩ (.slice a5 n' c5)).setCell ⟨qB, 2, none⟩ (.slice a6 n2' c6) = W9 at *
      clear hgW9
      replace qb_0 := qb.cell (i := 0) rfl
      replace qb_1 := qb.cell (i := 1) rfl
      replace qb_2 := qb.cell (i := 2) rfl
      replace qb_f0 := qb.free 0
      replace qb_f1 := qb.free 1
      replace qb_f2 := qb.free 2
      replace qb_lt := qb.lt
      replace p0_0 := p0.cell (i := 0) rfl
      replace p0_1 := p0.cell (i := 1) rfl
      replace p0_2 := p0.cell (i := 2) rfl
      replace p1_0 := p1.cell (i := 0) rfl
      replace p1_1 := p1.cell (i := 1) rfl
      replace p1_2 := p1.cell (i := 2) rfl
      replace qa_0 := qa.cell (i := 0) rfl
      replace qa_1 := qa.cell (i := 1) rfl
      replace qa_2 := qa.cell (i := 2) rfl
      replace qa_f0 := qa.free 0
      replace qa_f1 := qa.free 1
      replace qa_f2 := qa.free 2
      replace qa_lt := qa.lt
      refine hKc.out _ _ ⟨p0_0, p0_1, p0_2, p1_0, p1_1, p1_2⟩ (fun hHeld => ?_)
      clear hKc Kc
      try simp only [Act.put, List.setIfInBounds_toArray, List.set_cons_zero, List.set_cons_succ]
      refine wpAnyH_done (by as_aux_lemma => kernel_rfl) ?_ _
      refine NoPanic.normal ?_
      exact hQ qA qB a3 c3 a4 c4 a5 c5 a6 c6 _ _ _ _ _ ne5 (Lib.hid qa) (Lib.hid qb) (Lib.hid (h5.mono (Nat.le_refl _) (hTW9 _ _ (by first | exact Or.inl (by omega) | exact Or.inr (by omega)) (hTW8 _ _ (by first | exact Or.inl (by omega) | exact Or.inr (by omega)) hk5))).zero) (Lib.hid (h6.mono (Nat.le_refl _) (hTW9 _ _ (by first | exact Or.inl (by omega) | exact Or.inr (by omega)) (hTW8 _ _ (by first | exact Or.inl (by omega) | exact Or.inr (by omega)) hk6))).zero) (Lib.hid (hSW9 _ _ (by omega) (hSW8 _ _ (by omega) hE0)))
end Go.Proofs.YtbhenelehhiakaaGreat
/-
  The law QmatSums: region 13.
-/
namespace Go.Proofs.YtbhenelehhiakaaGreat
open Go.RowKit

set_option maxRecDepth 1000000 in
set_option maxHeartbeats 40000000 in
theorem sums_r13_1 (K : Nat) (hK : 16 * K + 16777216 ≤ 549755813888) (hK1 : 1 ≤ K) (w w9 : World) (b : Bool) (a a2 : Option Addr) (n c n2 c2 : Nat) (x : Int × List (List Int)) (HXL : Hid (MatS K w9 b a n c a2 n2 c2 x.1 x.2)) (b' : Bool) (a' a2' : Option Addr) (n' c' n2' c2' : Nat) (y : Int × List (List Int)) (HYL : Hid (MatS K w9 b' a' n' c' a2' n2' c2' y.1 y.2)) (bx by1 : Bool) (ax ay : Option Addr) (nx cx ny cy : Nat) (q : Int × Int) (HQL : Hid ((rFr K).ok 0 w9 [.bool bx, .slice ax nx cx, .bool by1, .slice ay ny cy] q)) (hn2 : n2 ≤ 1048576) (HCX : Hid (colsOf x.2 ≤ 1048576)) (s1 s2 : Int) (HS1 : Hid (joinE x y = s1)) (HS2 : Hid (scaleE x q = s2)) (qs qd qm : List (List Rat)) (HQS : Hid (joinQ (· + ·) (fracs x.1 x.2) (fracs y.1 y.2) n2 (colsOf x.2) = qs)) (HQD : Hid (joinQ (· - ·) (fracs x.1 x.2) (fracs y.1 y.2) n2 (colsOf x.2) = qd)) (HQM : Hid (scaleQ (fracs x.1 x.2) (frR q) n2 (colsOf x.2) = qm)) (HP0 : Hid (Blk w9 w.heap.size 28 #[.bool b, .slice a n c, .slice a2 n2 c2])) (HP1 : Hid (Blk w9 (w.heap.size + 1) 28 #[.bool b', .slice a' n' c', .slice a2' n2' c2'])) (HP2 : Hid (Blk w9 (w.heap.size + 1 + 1) 75 #[.bool bx, .slice ax nx cx, .bool by1, .slice ay ny cy])) (pu pd pm : Nat) (bu : Bool) (au au2 : Option Addr) (nu cu nu2 cu2 : Nat) (bd : Bool) (ad ad2 : Option Addr) (nd cd nd2 cd2 : Nat) (bm : Bool) (am am2 : Option Addr) (nm cm nm2 cm2 : Nat) (HUB : Hid (Blk w9 pu 28 #[.bool bu, .slice au nu cu, .slice au2 nu2 cu2])) (HDB : Hid (Blk w9 pd 28 #[.bool bd, .slice ad nd cd, .slice ad2 nd2 cd2])) (HMB : Hid (Blk w9 pm 28 #[.bool bm, .slice am nm cm, .slice am2 nm2 cm2])) (HKu : Hid (s1 = 0 → bu = false ∧ NatS 0 w9 au nu cu (limbs (nrmD qs)) ∧ Sl rInts 0 w9 au2 nu2 cu2 (rawM (nrmZ qs)))) (HKd : Hid (s1 = 0 → bd = false ∧ NatS 0 w9 ad nd cd (limbs (nrmD qd)) ∧ Sl rInts 0 w9 ad2 nd2 cd2 (rawM (nrmZ qd)))) (HKm : Hid (s2 = 0 → bm = false ∧ NatS 0 w9 am nm cm (limbs (nrmD qm)) ∧ Sl rInts 0 w9 am2 nm2 cm2 (rawM (nrmZ qm)))) (HMu : Hid (s1 ≠ 0 → bu = false ∧ au = none ∧ nu = 0 ∧ cu = 0 ∧ au2 = none ∧ nu2 = 0 ∧ cu2 = 0)) (HMd : Hid (s1 ≠ 0 → bd = false ∧ ad = none ∧ nd = 0 ∧ cd = 0 ∧ ad2 = none ∧ nd2 = 0 ∧ cd2 = 0)) (HMm : Hid (s2 ≠ 0 → bm = false ∧ am = none ∧ nm = 0 ∧ cm = 0 ∧ am2 = none ∧ nm2 = 0 ∧ cm2 = 0)) (x0 x1 x2 x6 x7 x8 x16 x17 x18 x19 x21 x22 x23 x24 x25 x26 x27 x28 x29 x30 x31 x32 x33 x34 x35 x36 x37 x38 x39 x40 x41 x42 x43 x44 x45 x46 x47 x48 x49 x50 x51 x52 x53 x54 x55 x56 x57 x58 x59 x60 x61 x62 x63 x64 x65 x66 x67 x68 x69 x70 x71 x72 x73 x74 x75 x76 x77 x78 x79 x80 x81 x82 x83 x84 x85 x86 x87 x88 x89 x90 x91 x92 x93 x94 x95 x96 x97 x98 x99 x100 x101 x102 x103 x104 x105 x106 x107 x108 x109 x110 x111 x112 x113 x114 x115 x116 x117 x118 x119 x120 x121 x122 x123 x124 x125 x126 x127 x128 x129 x130 x131 x132 x133 x134 x135 x136 x137 x138 x139 x140 x141 x142 x143 x144 x145 x146 x147 x148 x149 x150 x151 x152 x153 x154 x155 : Value) (Q : Exit → Act → World → Prop) (hQ : ∀ (v78 v79 v80 v81 v82 v83 v84 v85 v86 v87 v88 v89 v90 v91 v92 v93 v94 v95 v96 v97 v98 v99 v100 v101 v102 v103 v104 v105 v106 v107 v108 v109 v110 v111 v112 v113 v114 v115 v116 v117 v118 v119 v120 v121 v122 v123 v124 v125 v126 v127 v128 v129 v130 v131 v132 v133 v134 v135 v136 v137 v138 v139 v140 v141 : Value) (w' : World), Hid (Ext w9 w') → Q .normal { tmps := #[x0, x1, x2, .pointer (some ⟨w.heap.size, 0, none⟩), .pointer (some ⟨w.heap.size + 1, 0, none⟩), .pointer (some ⟨w.heap.size + 1 + 1, 0, none⟩), x6, x7, x8, .pointer (some ⟨pu, 0, none⟩), .int .i64 s1, .pointer (some ⟨pd, 0, none⟩), .int .i64 s1, .pointer (some ⟨pm, 0, none⟩), .int .i64 s2, .int .i64 s1, x16, x17, x18, x19, .int .i64 s2, .bool true, x22, x23, x24, x25, x26, x27, x28, x29, x30, x31, x32, x33, x34, x35, x36, x37, x38, x39, x40, x41, x42, x43, x44, x45, x46, x47, x48, x49, x50, x51, x52, x53, x54, x55, x56, x57, x58, x59, x60, x61, x62, x63, x64, x65, x66, x67, x68, x69, x70, x71, x72, x73, x74, x75, x76, x77, v78, v79, v80, v81, v82, v83, v84, v85, v86, v87, v88, v89, v90, v91, v92, v93, v94, v95, v96, v97, v98, v99, v100, v101, v102, v103, v104, v105, v106, v107, v108, v109, v110, v111, v112, v113, v114, v115, v116, v117, v118, v119, v120, v121, v122, v123, v124, v125, v126, v127, v128, v129, v130, v131, v132, v133, v134, v135, v136, v137, v138, v139, v140, v141, x142, x143, x144, x145, x146, x147, x148, x149, x150, x151, x152, x153, x154, x155], defers := [] } w') (t1 : s1 = 0) (t2 : s2 = 0) :
    Code.wp Tryz.prog (sumsReg 13) Q { tmps := #[x0, x1, x2, .pointer (some ⟨w.heap.size, 0, none⟩), .pointer (some ⟨w.heap.size + 1, 0, none⟩), .pointer (some ⟨w.heap.size + 1 + 1, 0, none⟩), x6, x7, x8, .pointer (some ⟨pu, 0, none⟩), .int .i64 s1, .pointer (some ⟨pd, 0, none⟩), .int .i64 s1, .pointer (some ⟨pm, 0, none⟩), .int .i64 s2, .int .i64 s1, x16, x17, x18, x19, .int .i64 s2, x21, x22, x23, x24, x25, x26, x27, x28, x29, x30, x31, x32, x33, x34, x35, x36, x37, x38, x39, x40, x41, x42, x43, x44, x45, x46, x47, x48, x49, x50, x51, x52, x53, x54, x55, x56, x57, x58, x59, x60, x61, x62, x63, x64, x65, x66, x67, x68, x69, x70, x71, x72, x73, x74, x75, x76, x77, x78, x79, x80, x81, x82, x83, x84, x85, x86, x87, x88, x89, x90, x91, x92, x93, x94, x95, x96, x97, x98, x99, x100, x101, x102, x103, x104, x105, x106, x107, x108, x109, x110, x111, x112, x113, x114, x115, x116, x117, x118, x119, x120, x121, x122, x123, x124, x125, x126, x127, x128, x129, x130, x131, x132, x133, x134, x135, x136, x137, x138, x139, x140, x141, x142, x143, x144, x145, x146, x147, x148, x149, x150, x151, x152, x153, x154, x155], defers := [] } w9 := by
  conv => arg 2; whnf
  have hE0 : Ext w9 w9.drew := (Below.refl _ _).drew
  have p0 := HP0.out.ext hE0
  have p1 := HP1.out.ext hE0
  have p2 := HP2.out.ext hE0
  have ub := HUB.out.ext hE0
  have db := HDB.out.ext hE0
  have mb := HMB.out.ext hE0
  clear HP0 HP1 HP2 HUB HDB HMB
  subst t1
  obtain ⟨rfl, hu1, hu2⟩ := HKu.out rfl
  replace hu1 := hu1.ext (Nat.le_refl _) hE0
  replace hu2 := hu2.ext (Nat.le_refl _) hE0
  obtain ⟨rfl, hd1, hd2⟩ := HKd.out rfl
  replace hd1 := hd1.ext (Nat.le_refl _) hE0
  replace hd2 := hd2.ext (Nat.le_refl _) hE0
  subst t2
  obtain ⟨rfl, hm1, hm2⟩ := HKm.out rfl
  replace hm1 := hm1.ext (Nat.le_refl _) hE0
  replace hm2 := hm2.ext (Nat.le_refl _) hE0
  skip
  skip
  skip
  replace p0_0 := p0.cell (i := 0) rfl
  replace p0_1 := p0.cell (i := 1) rfl
  replace p0_2 := p0.cell (i := 2) rfl
  replace p0_f0 := p0.free 0
  replace p0_f1 := p0.free 1
  replace p0_f2 := p0.free 2
  replace p0_lt := p0.lt
  replace p1_0 := p1.cell (i := 0) rfl
  replace p1_1 := p1.cell (i := 1) rfl
  replace p1_2 := p1.cell (i := 2) rfl
  replace p1_f0 := p1.free 0
  replace p1_f1 := p1.free 1
  replace p1_f2 := p1.free 2
  replace p1_lt := p1.lt
  replace p2_0 := p2.cell (i := 0) rfl
  replace p2_1 := p2.cell (i := 1) rfl
  replace p2_2 := p2.cell (i := 2) rfl
  replace p2_3 := p2.cell (i := 3) rfl
  replace p2_f0 := p2.free 0
  replace p2_f1 := p2.free 1
  replace p2_f2 := p2.free 2
  replace p2_f3 := p2.free 3
  replace p2_lt := p2.lt
  skip
  skip
  skip
  replace ub_0 := ub.cell (i := 0) rfl
  replace ub_1 := ub.cell (i := 1) rfl
  replace ub_2 := ub.cell (i := 2) rfl
  replace db_0 := db.cell (i := 0) rfl
  replace db_1 := db.cell (i := 1) rfl
  replace db_2 := db.cell (i := 2) rfl
  replace mb_0 := mb.cell (i := 0) rfl
  replace mb_1 := mb.cell (i := 1) rfl
  replace mb_2 := mb.cell (i := 2) rfl
  refine wp_region_noPanic ?_
  refine wp_region_held_drew (S := (fun w' => w'.cell? ⟨w.heap.size, 0, none⟩ = some (.bool b) ∧ w'.cell? ⟨w.heap.size, 1, none⟩ = some (.slice a n c) ∧ w'.cell? ⟨w.heap.size, 2, none⟩ = some (.slice a2 n2 c2) ∧ w'.cell? ⟨w.heap.size + 1, 0, none⟩ = some (.bool b') ∧ w'.cell? ⟨w.heap.size + 1, 1, none⟩ = some (.slice a' n' c') ∧ w'.cell? ⟨w.heap.size + 1, 2, none⟩ = some (.slice a2' n2' c2') ∧ w'.cell? ⟨w.heap.size + 1 + 1, 0, none⟩ = some (.bool bx) ∧ w'.cell? ⟨w.heap.size + 1 + 1, 1, none⟩ = some (.slice ax nx cx) ∧ w'.cell? ⟨w.heap.size + 1 + 1, 2, none⟩ = some (.bool by1) ∧ w'.cell? ⟨w.heap.size + 1 + 1, 3, none⟩ = some (.slice ay ny cy) ∧ w'.cell? ⟨pu, 0, none⟩ = some (.bool false) ∧ w'.cell? ⟨pu, 1, none⟩ = some (.slice au nu cu) ∧ w'.cell? ⟨pu, 2, none⟩ = some (.slice au2 nu2 cu2) ∧ w'.cell? ⟨pd, 0, none⟩ = some (.bool false) ∧ w'.cell? ⟨pd, 1, none⟩ = some (.slice ad nd cd) ∧ w'.cell? ⟨pd, 2, none⟩ = some (.slice ad2 nd2 cd2) ∧ w'.cell? ⟨pm, 0, none⟩ = some (.bool false) ∧ w'.cell? ⟨pm, 1, none⟩ = some (.slice am nm cm) ∧ w'.cell? ⟨pm, 2, none⟩ = some (.slice am2 nm2 cm2))) (by as_aux_lemma => kernel_rfl) ⟨p0_0, p0_1, p0_2, p1_0, p1_1, p1_2, p2_0, p2_1, p2_2, p2_3, ub_0, ub_1, ub_2, db_0, db_1, db_2, mb_0, mb_1, mb_2⟩ (fun hHeld => ?_)
  refine takeY 0 78 hHeld ?_
  refine takeY 1 79 hHeld ?_
  refine takeY 2 80 hHeld ?_
  refine passY 3 81 hHeld ?_
  refine passY 4 82 hHeld ?_
  refine passY 5 83 hHeld ?_
  refine skipY 6 84 hHeld ?_
  refine takeY 7 85 hHeld ?_
  refine takeY 8 86 hHeld ?_
  refine takeY 9 87 hHeld ?_
  refine takeY 10 88 hHeld ?_
  refine takeY 11 89 hHeld ?_
  refine takeY 12 90 hHeld ?_
  refine takeY 13 91 hHeld ?_
  refine takeY 14 92 hHeld ?_
  refine takeY 15 93 hHeld ?_
  refine stepD 16 rfl (by as_aux_lemma => kernel_rfl) (fun Kc hKc => ?_)
  refine Eq.mpr (if_pos (by as_aux_lemma => kernel_rfl)) ?_
  go_simp
  refine (r11Add_ref K (by omega) _ b a a2 n c n2 c2 x (HXL.out.ext hE0) b' a' a2' n' c' n2' c2' y (HYL.out.ext hE0) HS1 hn2 HCX.out qs HQS).mono ?_; rintro e v1 ⟨a7, n7, c7, a8, n8, c8, rfl, g1, g2, hE1⟩; replace db := db.ext hE1; replace db_0 := db.cell (i := 0) rfl; replace db_1 := db.cell (i := 1) rfl; replace db_2 := db.cell (i := 2) rfl; replace mb := mb.ext hE1; replace mb_0 := mb.cell (i := 0) rfl; replace mb_1 := mb.cell (i := 1) rfl; replace mb_2 := mb.cell (i := 2) rfl; replace p0 := p0.ext hE1; replace p0_0 := p0.cell (i := 0) rfl; replace p0_1 := p0.cell (i := 1) rfl; replace p0_2 := p0.cell (i := 2) rfl; replace p1 := p1.ext hE1; replace p1_0 := p1.cell (i := 0) rfl; replace p1_1 := p1.cell (i := 1) rfl; replace p1_2 := p1.cell (i := 2) rfl; replace p2 := p2.ext hE1; replace p2_0 := p2.cell (i := 0) rfl; replace p2_1 := p2.cell (i := 1) rfl; replace p2_2 := p2.cell (i := 2) rfl; replace p2_3 := p2.cell (i := 3) rfl; replace ub := ub.ext hE1; replace ub_0 := ub.cell (i := 0) rfl; replace ub_1 := ub.cell (i := 1) rfl; replace ub_2 := ub.cell (i := 2) rfl; replace hu1 := hu1.ext (Nat.le_refl _) hE1; replace hu2 := hu2.ext (Nat.le_refl _) hE1; replace hd1 := hd1.ext (Nat.le_refl _) hE1; replace hd2 := hd2.ext (Nat.le_refl _) hE1; replace hm1 := hm1.ext (Nat.le_refl _) hE1; replace hm2 := hm2.ext (Nat.le_refl _) hE1; replace hE0 := Ext.trans hE0 hE1
  go_wp2_with fail
  refine hKc.out _ _ ⟨p0_0, p0_1, p0_2, p1_0, p1_1, p1_2, p2_0, p2_1, p2_2, p2_3, ub_0, ub_1, ub_2, db_0, db_1, db_2, mb_0, mb_1, mb_2⟩ (fun hHeld => ?_)
  clear hKc Kc
  try simp only [Act.put, List.setIfInBounds_toArray, List.set_cons_zero, List.set_cons_succ]
  refine stepD 17 rfl (by as_aux_lemma => kernel_rfl) (fun Kc hKc => ?_)
  refine Eq.mpr (if_pos (by as_aux_lemma => kernel_rfl)) ?_
  go_simp
  refine (right_yes _ false au a7 au2 a8 nu cu n7 c7 nu2 cu2 n8 c8 _ _ hu1 g1 hu2 g2).mono ?_; rintro e v2 ⟨rfl, hE1⟩; replace db := db.ext hE1; replace db_0 := db.cell (i := 0) rfl; replace db_1 := db.cell (i := 1) rfl; replace db_2 := db.cell (i := 2) rfl; replace mb := mb.ext hE1; replace mb_0 := mb.cell (i := 0) rfl; replace mb_1 := mb.cell (i := 1) rfl; replace mb_2 := mb.cell (i := 2) rfl; replace p0 := p0.ext hE1; replace p0_0 := p0.cell (i := 0) rfl; replace p0_1 := p0.cell (i := 1) rfl; replace p0_2 := p0.cell (i := 2) rfl; replace p1 := p1.ext hE1; replace p1_0 := p1.cell (i := 0) rfl; replace p1_1 := p1.cell (i := 1) rfl; replace p1_2 := p1.cell (i := 2) rfl; replace p2 := p2.ext hE1; replace p2_0 := p2.cell (i := 0) rfl; replace p2_1 := p2.cell (i := 1) rfl; replace p2_2 := p2.cell (i := 2) rfl; replace p2_3 := p2.cell (i := 3) rfl; replace ub := ub.ext hE1; replace ub_0 := ub.cell (i := 0) rfl; replace ub_1 := ub.cell (i := 1) rfl; replace ub_2 := ub.cell (i := 2) rfl; replace hd1 := hd1.ext (Nat.le_refl _) hE1; replace hd2 := hd2.ext (Nat.le_refl _) hE1; replace hm1 := hm1.ext (Nat.le_refl _) hE1; replace hm2 := hm2.ext (Nat.le_refl _) hE1; clear hu1 hu2 g1 g2; replace hE0 := Ext.trans hE0 hE1
  go_wp2_with fail
  refine hKc.out _ _ ⟨p0_0, p0_1, p0_2, p1_0, p1_1, p1_2, p2_0, p2_1, p2_2, p2_3, ub_0, ub_1, ub_2, db_0, db_1, db_2, mb_0, mb_1, mb_2⟩ (fun hHeld => ?_)
  clear hKc Kc
  try simp only [Act.put, List.setIfInBounds_toArray, List.set_cons_zero, List.set_cons_succ]
  refine takeY 18 96 hHeld ?_
  refine takeY 19 97 hHeld ?_
  refine takeY 20 98 hHeld ?_
  refine takeY 21 99 hHeld ?_
  refine takeY 22 100 hHeld ?_
  refine takeY 23 101 hHeld ?_
  refine passY 24 102 hHeld ?_
  refine passY 25 103 hHeld ?_
  refine passY 26 104 hHeld ?_
  refine skipY 27 105 hHeld ?_
  refine takeY 28 106 hHeld ?_
  refine takeY 29 107 hHeld ?_
  refine takeY 30 108 hHeld ?_
  refine takeY 31 109 hHeld ?_
  refine takeY 32 110 hHeld ?_
  refine takeY 33 111 hHeld ?_
  refine takeY 34 112 hHeld ?_
  refine takeY 35 113 hHeld ?_
  refine takeY 36 114 hHeld ?_
  refine stepD 37 rfl (by as_aux_lemma => kernel_rfl) (fun Kc hKc => ?_)
  refine Eq.mpr (if_pos (by as_aux_lemma => kernel_rfl)) ?_
  go_simp
  refine (r11Sub_ref K (by omega) hK1 _ b a a2 n c n2 c2 x (HXL.out.ext hE0) b' a' a2' n' c' n2' c2' y (HYL.out.ext hE0) HS1 hn2 HCX.out qd HQD).mono ?_; rintro e v1 ⟨a7, n7, c7, a8, n8, c8, rfl, g1, g2, hE1⟩; replace db := db.ext hE1; replace db_0 := db.cell (i := 0) rfl; replace db_1 := db.cell (i := 1) rfl; replace db_2 := db.cell (i := 2) rfl; replace mb := mb.ext hE1; replace mb_0 := mb.cell (i := 0) rfl; replace mb_1 := mb.cell (i := 1) rfl; replace mb_2 := mb.cell (i := 2) rfl; replace p0 := p0.ext hE1; replace p0_0 := p0.cell (i := 0) rfl; replace p0_1 := p0.cell (i := 1) rfl; replace p0_2 := p0.cell (i := 2) rfl; replace p1 := p1.ext hE1; replace p1_0 := p1.cell (i := 0) rfl; replace p1_1 := p1.cell (i := 1) rfl; replace p1_2 := p1.cell (i := 2) rfl; replace p2 := p2.ext hE1; replace p2_0 := p2.cell (i := 0) rfl; replace p2_1 := p2.cell (i := 1) rfl; replace p2_2 := p2.cell (i := 2) rfl; replace p2_3 := p2.cell (i := 3) rfl; replace ub := ub.ext hE1; replace ub_0 := ub.cell (i := 0) rfl; replace ub_1 := ub.cell (i := 1) rfl; replace ub_2 := ub.cell (i := 2) rfl; replace hd1 := hd1.ext (Nat.le_refl _) hE1; replace hd2 := hd2.ext (Nat.le_refl _) hE1; replace hm1 := hm1.ext (Nat.le_refl _) hE1; replace hm2 := hm2.ext (Nat.le_refl _) hE1; replace hE0 := Ext.trans hE0 hE1
  go_wp2_with fail
  refine hKc.out _ _ ⟨p0_0, p0_1, p0_2, p1_0, p1_1, p1_2, p2_0, p2_1, p2_2, p2_3, ub_0, ub_1, ub_2, db_0, db_1, db_2, mb_0, mb_1, mb_2⟩ (fun hHeld => ?_)
  clear hKc Kc
  try simp only [Act.put, List.setIfInBounds_toArray, List.set_cons_zero, List.set_cons_succ]
  refine stepD 38 rfl (by as_aux_lemma => kernel_rfl) (fun Kc hKc => ?_)
  refine Eq.mpr (if_pos (by as_aux_lemma => kernel_rfl)) ?_
  go_simp
  refine (right_yes _ false ad a7 ad2 a8 nd cd n7 c7 nd2 cd2 n8 c8 _ _ hd1 g1 hd2 g2).mono ?_; rintro e v2 ⟨rfl, hE1⟩; replace db := db.ext hE1; replace db_0 := db.cell (i := 0) rfl; replace db_1 := db.cell (i := 1) rfl; replace db_2 := db.cell (i := 2) rfl; replace mb := mb.ext hE1; replace mb_0 := mb.cell (i := 0) rfl; replace mb_1 := mb.cell (i := 1) rfl; replace mb_2 := mb.cell (i := 2) rfl; replace p0 := p0.ext hE1; replace p0_0 := p0.cell (i := 0) rfl; replace p0_1 := p0.cell (i := 1) rfl; replace p0_2 := p0.cell (i := 2) rfl; replace p1 := p1.ext hE1; replace p1_0 := p1.cell (i := 0) rfl; replace p1_1 := p1.cell (i := 1) rfl; replace p1_2 := p1.cell (i := 2) rfl; replace p2 := p2.ext hE1; replace p2_0 := p2.cell (i := 0) rfl; replace p2_1 := p2.cell (i := 1) rfl; replace p2_2 := p2.cell (i := 2) rfl; replace p2_3 := p2.cell (i := 3) rfl; replace ub := ub.ext hE1; replace ub_0 := ub.cell (i := 0) rfl; replace ub_1 := ub.cell (i := 1) rfl; replace ub_2 := ub.cell (i := 2) rfl; replace hm1 := hm1.ext (Nat.le_refl _) hE1; replace hm2 := hm2.ext (Nat.le_refl _) hE1; clear hd1 hd2 g1 g2; replace hE0 := Ext.trans hE0 hE1
  go_wp2_with fail
  refine hKc.out _ _ ⟨p0_0, p0_1, p0_2, p1_0, p1_1, p1_2, p2_0, p2_1, p2_2, p2_3, ub_0, ub_1, ub_2, db_0, db_1, db_2, mb_0, mb_1, mb_2⟩ (fun hHeld => ?_)
  clear hKc Kc
  try simp only [Act.put, List.setIfInBounds_toArray, List.set_cons_zero, List.set_cons_succ]
  refine takeY 39 117 hHeld ?_
  refine takeY 40 118 hHeld ?_
  refine takeY 41 119 hHeld ?_
  refine takeY 42 120 hHeld ?_
  refine takeY 43 121 hHeld ?_
  refine takeY 44 122 hHeld ?_
  refine takeY 45 123 hHeld ?_
  refine passY 46 124 hHeld ?_
  refine passY 47 125 hHeld ?_
  refine passY 48 126 hHeld ?_
  refine skipY 49 127 hHeld ?_
  refine takeY 50 128 hHeld ?_
  refine takeY 51 129 hHeld ?_
  refine takeY 52 130 hHeld ?_
  refine takeY 53 131 hHeld ?_
  refine takeY 54 132 hHeld ?_
  refine takeY 55 133 hHeld ?_
  refine takeY 56 134 hHeld ?_
  refine takeY 57 135 hHeld ?_
  refine takeY 58 136 hHeld ?_
  refine stepD 59 rfl (by as_aux_lemma => kernel_rfl) (fun Kc hKc => ?_)
  refine Eq.mpr (if_pos (by as_aux_lemma => kernel_rfl)) ?_
  go_simp
  refine (r11Scale_ref K (by omega) _ b a a2 n c n2 c2 x (HXL.out.ext hE0) bx by1 ax ay nx cx ny cy q (rFr_ext HQL.out hE0) HS2 hn2 HCX.out qm HQM).mono ?_; rintro e v1 ⟨a7, n7, c7, a8, n8, c8, rfl, g1, g2, hE1⟩; replace db := db.ext hE1; replace db_0 := db.cell (i := 0) rfl; replace db_1 := db.cell (i := 1) rfl; replace db_2 := db.cell (i := 2) rfl; replace mb := mb.ext hE1; replace mb_0 := mb.cell (i := 0) rfl; replace mb_1 := mb.cell (i := 1) rfl; replace mb_2 := mb.cell (i := 2) rfl; replace p0 := p0.ext hE1; replace p0_0 := p0.cell (i := 0) rfl; replace p0_1 := p0.cell (i := 1) rfl; replace p0_2 := p0.cell (i := 2) rfl; replace p1 := p1.ext hE1; replace p1_0 := p1.cell (i := 0) rfl; replace p1_1 := p1.cell (i := 1) rfl; replace p1_2 := p1.cell (i := 2) rfl; replace p2 := p2.ext hE1; replace p2_0 := p2.cell (i := 0) rfl; replace p2_1 := p2.cell (i := 1) rfl; replace p2_2 := p2.cell (i := 2) rfl; replace p2_3 := p2.cell (i := 3) rfl; replace ub := ub.ext hE1; replace ub_0 := ub.cell (i := 0) rfl; replace ub_1 := ub.cell (i := 1) rfl; replace ub_2 := ub.cell (i := 2) rfl; replace hm1 := hm1.ext (Nat.le_refl _) hE1; replace hm2 := hm2.ext (Nat.le_refl _) hE1; replace hE0 := Ext.trans hE0 hE1
  go_wp2_with fail
  refine hKc.out _ _ ⟨p0_0, p0_1, p0_2, p1_0, p1_1, p1_2, p2_0, p2_1, p2_2, p2_3, ub_0, ub_1, ub_2, db_0, db_1, db_2, mb_0, mb_1, mb_2⟩ (fun hHeld => ?_)
  clear hKc Kc
  try simp only [Act.put, List.setIfInBounds_toArray, List.set_cons_zero, List.set_cons_succ]
  refine stepD 60 rfl (by as_aux_lemma => kernel_rfl) (fun Kc hKc => ?_)
  refine Eq.mpr (if_pos (by as_aux_lemma => kernel_rfl)) ?_
  go_simp
  refine (right_yes _ false am a7 am2 a8 nm cm n7 c7 nm2 cm2 n8 c8 _ _ hm1 g1 hm2 g2).mono ?_; rintro e v2 ⟨rfl, hE1⟩; replace db := db.ext hE1; replace db_0 := db.cell (i := 0) rfl; replace db_1 := db.cell (i := 1) rfl; replace db_2 := db.cell (i := 2) rfl; replace mb := mb.ext hE1; replace mb_0 := mb.cell (i := 0) rfl; replace mb_1 := mb.cell (i := 1) rfl; replace mb_2 := mb.cell (i := 2) rfl; replace p0 := p0.ext hE1; replace p0_0 := p0.cell (i := 0) rfl; replace p0_1 := p0.cell (i := 1) rfl; replace p0_2 := p0.cell (i := 2) rfl; replace p1 := p1.ext hE1; replace p1_0 := p1.cell (i := 0) rfl; replace p1_1 := p1.cell (i := 1) rfl; replace p1_2 := p1.cell (i := 2) rfl; replace p2 := p2.ext hE1; replace p2_0 := p2.cell (i := 0) rfl; replace p2_1 := p2.cell (i := 1) rfl; replace p2_2 := p2.cell (i := 2) rfl; replace p2_3 := p2.cell (i := 3) rfl; replace ub := ub.ext hE1; replace ub_0 := ub.cell (i := 0) rfl; replace ub_1 := ub.cell (i := 1) rfl; replace ub_2 := ub.cell (i := 2) rfl; clear hm1 hm2 g1 g2; replace hE0 := Ext.trans hE0 hE1
  go_wp2_with fail
  refine hKc.out _ _ ⟨p0_0, p0_1, p0_2, p1_0, p1_1, p1_2, p2_0, p2_1, p2_2, p2_3, ub_0, ub_1, ub_2, db_0, db_1, db_2, mb_0, mb_1, mb_2⟩ (fun hHeld => ?_)
  clear hKc Kc
  try simp only [Act.put, List.setIfInBounds_toArray, List.set_cons_zero, List.set_cons_succ]
  refine takeY 61 139 hHeld ?_
  refine takeY 62 140 hHeld ?_
  refine takeY 63 141 hHeld ?_
  refine takeY 64 21 hHeld ?_
  refine wpAnyH_done (by as_aux_lemma => kernel_rfl) ?_ _
  refine NoPanic.normal ?_
  exact hQ _ _ _ _ _ _ _ _ _ _ _ _ _ _ _ _ _ _ _ _ _ _ _ _ _ _ _ _ _ _ _ _ _ _ _ _ _ _ _ _ _ _ _ _ _ _ _ _ _ _ _ _ _ _ _ _ _ _ _ _ _ _ _ _ _ (Lib.hid hE0)
set_option maxRecDepth 1000000 in
set_option maxHeartbeats 40000000 in
theorem sums_r13_2 (K : Nat) (hK : 16 * K + 16777216 ≤ 549755813888) (hK1 : 1 ≤ K) (w w9 : World) (b : Bool) (a a2 : Option Addr) (n c n2 c2 : Nat) (x : Int × List (List Int)) (HXL : Hid (MatS K w9 b a n c a2 n2 c2 x.1 x.2)) (b' : Bool) (a' a2' : Option Addr) (n' c' n2' c2' : Nat) (y : Int × List (List Int)) (HYL : Hid (MatS K w9 b' a' n' c' a2' n2' c2' y.1 y.2)) (bx by1 : Bool) (ax ay : Option Addr) (nx cx ny cy : Nat) (q : Int × Int) (HQL : Hid ((rFr K).ok 0 w9 [.bool bx, .slice ax nx cx, .bool by1, .slice ay ny cy] q)) (hn2 : n2 ≤ 1048576) (HCX : Hid (colsOf x.2 ≤ 1048576)) (s1 s2 : Int) (HS1 : Hid (joinE x y = s1)) (HS2 : Hid (scaleE x q = s2)) (qs qd qm : List (List Rat)) (HQS : Hid (joinQ (· + ·) (fracs x.1 x.2) (fracs y.1 y.2) n2 (colsOf x.2) = qs)) (HQD : Hid (joinQ (· - ·) (fracs x.1 x.2) (fracs y.1 y.2) n2 (colsOf x.2) = qd)) (HQM : Hid (scaleQ (fracs x.1 x.2) (frR q) n2 (colsOf x.2) = qm)) (HP0 : Hid (Blk w9 w.heap.size 28 #[.bool b, .slice a n c, .slice a2 n2 c2])) (HP1 : Hid (Blk w9 (w.heap.size + 1) 28 #[.bool b', .slice a' n' c', .slice a2' n2' c2'])) (HP2 : Hid (Blk w9 (w.heap.size + 1 + 1) 75 #[.bool bx, .slice ax nx cx, .bool by1, .slice ay ny cy])) (pu pd pm : Nat) (bu : Bool) (au au2 : Option Addr) (nu cu nu2 cu2 : Nat) (bd : Bool) (ad ad2 : Option Addr) (nd cd nd2 cd2 : Nat) (bm : Bool) (am am2 : Option Addr) (nm cm nm2 cm2 : Nat) (HUB : Hid (Blk w9 pu 28 #[.bool bu, .slice au nu cu, .slice au2 nu2 cu2])) (HDB : Hid (Blk w9 pd 28 #[.bool bd, .slice ad nd cd, .slice ad2 nd2 cd2])) (HMB : Hid (Blk w9 pm 28 #[.bool bm, .slice am nm cm, .slice am2 nm2 cm2])) (HKu : Hid (s1 = 0 → bu = false ∧ NatS 0 w9 au nu cu (limbs (nrmD qs)) ∧ Sl rInts 0 w9 au2 nu2 cu2 (rawM (nrmZ qs)))) (HKd : Hid (s1 = 0 → bd = false ∧ NatS 0 w9 ad nd cd (limbs (nrmD qd)) ∧ Sl rInts 0 w9 ad2 nd2 cd2 (rawM (nrmZ qd)))) (HKm : Hid (s2 = 0 → bm = false ∧ NatS 0 w9 am nm cm (limbs (nrmD qm)) ∧ Sl rInts 0 w9 am2 nm2 cm2 (rawM (nrmZ qm)))) (HMu : Hid (s1 ≠ 0 → bu = false ∧ au = none ∧ nu = 0 ∧ cu = 0 ∧ au2 = none ∧ nu2 = 0 ∧ cu2 = 0)) (HMd : Hid (s1 ≠ 0 → bd = false ∧ ad = none ∧ nd = 0 ∧ cd = 0 ∧ ad2 = none ∧ nd2 = 0 ∧ cd2 = 0)) (HMm : Hid (s2 ≠ 0 → bm = false ∧ am = none ∧ nm = 0 ∧ cm = 0 ∧ am2 = none ∧ nm2 = 0 ∧ cm2 = 0)) (x0 x1 x2 x6 x7 x8 x16 x17 x18 x19 x21 x22 x23 x24 x25 x26 x27 x28 x29 x30 x31 x32 x33 x34 x35 x36 x37 x38 x39 x40 x41 x42 x43 x44 x45 x46 x47 x48 x49 x50 x51 x52 x53 x54 x55 x56 x57 x58 x59 x60 x61 x62 x63 x64 x65 x66 x67 x68 x69 x70 x71 x72 x73 x74 x75 x76 x77 x78 x79 x80 x81 x82 x83 x84 x85 x86 x87 x88 x89 x90 x91 x92 x93 x94 x95 x96 x97 x98 x99 x100 x101 x102 x103 x104 x105 x106 x107 x108 x109 x110 x111 x112 x113 x114 x115 x116 x117 x118 x119 x120 x121 x122 x123 x124 x125 x126 x127 x128 x129 x130 x131 x132 x133 x134 x135 x136 x137 x138 x139 x140 x141 x142 x143 x144 x145 x146 x147 x148 x149 x150 x151 x152 x153 x154 x155 : Value) (Q : Exit → Act → World → Prop) (hQ : ∀ (v78 v79 v80 v81 v82 v83 v84 v85 v86 v87 v88 v89 v90 v91 v92 v93 v94 v95 v96 v97 v98 v99 v100 v101 v102 v103 v104 v105 v106 v107 v108 v109 v110 v111 v112 v113 v114 v115 v116 v117 v118 v119 v120 v121 v122 v123 v124 v125 v126 v127 v128 v129 v130 v131 v132 v133 v134 v135 v136 v137 v138 v139 v140 v141 : Value) (w' : World), Hid (Ext w9 w') → Q .normal { tmps := #[x0, x1, x2, .pointer (some ⟨w.heap.size, 0, none⟩), .pointer (some ⟨w.heap.size + 1, 0, none⟩), .pointer (some ⟨w.heap.size + 1 + 1, 0, none⟩), x6, x7, x8, .pointer (some ⟨pu, 0, none⟩), .int .i64 s1, .pointer (some ⟨pd, 0, none⟩), .int .i64 s1, .pointer (some ⟨pm, 0, none⟩), .int .i64 s2, .int .i64 s1, x16, x17, x18, x19, .int .i64 s2, .bool true, x22, x23, x24, x25, x26, x27, x28, x29, x30, x31, x32, x33, x34, x35, x36, x37, x38, x39, x40, x41, x42, x43, x44, x45, x46, x47, x48, x49, x50, x51, x52, x53, x54, x55, x56, x57, x58, x59, x60, x61, x62, x63, x64, x65, x66, x67, x68, x69, x70, x71, x72, x73, x74, x75, x76, x77, v78, v79, v80, v81, v82, v83, v84, v85, v86, v87, v88, v89, v90, v91, v92, v93, v94, v95, v96, v97, v98, v99, v100, v101, v102, v103, v104, v105, v106, v107, v108, v109, v110, v111, v112, v113, v114, v115, v116, v117, v118, v119, v120, v121, v122, v123, v124, v125, v126, v127, v128, v129, v130, v131, v132, v133, v134, v135, v136, v137, v138, v139, v140, v141, x142, x143, x144, x145, x146, x147, x148, x149, x150, x151, x152, x153, x154, x155], defers := [] } w') (t1 : s1 = 0) (t2 : ¬ s2 = 0) :
    Code.wp Tryz.prog (sumsReg 13) Q { tmps := #[x0, x1, x2, .pointer (some ⟨w.heap.size, 0, none⟩), .pointer (some ⟨w.heap.size + 1, 0, none⟩), .pointer (some ⟨w.heap.size + 1 + 1, 0, none⟩), x6, x7, x8, .pointer (some ⟨pu, 0, none⟩), .int .i64 s1, .pointer (some ⟨pd, 0, none⟩), .int .i64 s1, .pointer (some ⟨pm, 0, none⟩), .int .i64 s2, .int .i64 s1, x16, x17, x18, x19, .int .i64 s2, x21, x22, x23, x24, x25, x26, x27, x28, x29, x30, x31, x32, x33, x34, x35, x36, x37, x38, x39, x40, x41, x42, x43, x44, x45, x46, x47, x48, x49, x50, x51, x52, x53, x54, x55, x56, x57, x58, x59, x60, x61, x62, x63, x64, x65, x66, x67, x68, x69, x70, x71, x72, x73, x74, x75, x76, x77, x78, x79, x80, x81, x82, x83, x84, x85, x86, x87, x88, x89, x90, x91, x92, x93, x94, x95, x96, x97, x98, x99, x100, x101, x102, x103, x104, x105, x106, x107, x108, x109, x110, x111, x112, x113, x114, x115, x116, x117, x118, x119, x120, x121, x122, x123, x124, x125, x126, x127, x128, x129, x130, x131, x132, x133, x134, x135, x136, x137, x138, x139, x140, x141, x142, x143, x144, x145, x146, x147, x148, x149, x150, x151, x152, x153, x154, x155], defers := [] } w9 := by
  conv => arg 2; whnf
  have hE0 : Ext w9 w9.drew := (Below.refl _ _).drew
  have p0 := HP0.out.ext hE0
  have p1 := HP1.out.ext hE0
  have p2 := HP2.out.ext hE0
  have ub := HUB.out.ext hE0
  have db := HDB.out.ext hE0
  have mb := HMB.out.ext hE0
  clear HP0 HP1 HP2 HUB HDB HMB
  subst t1
  obtain ⟨rfl, hu1, hu2⟩ := HKu.out rfl
  replace hu1 := hu1.ext (Nat.le_refl _) hE0
  replace hu2 := hu2.ext (Nat.le_refl _) hE0
  obtain ⟨rfl, hd1, hd2⟩ := HKd.out rfl
  replace hd1 := hd1.ext (Nat.le_refl _) hE0
  replace hd2 := hd2.ext (Nat.le_refl _) hE0
  have u3 : (s2 != 0) = true := by simpa using t2
  have u4 : (s2 == 0) = false := by simpa using t2
  obtain ⟨rfl, rfl, rfl, rfl, rfl, rfl, rfl⟩ := HMm.out t2
  clear t2
  skip
  skip
  skip
  replace p0_0 := p0.cell (i := 0) rfl
  replace p0_1 := p0.cell (i := 1) rfl
  replace p0_2 := p0.cell (i := 2) rfl
  replace p0_f0 := p0.free 0
  replace p0_f1 := p0.free 1
  replace p0_f2 := p0.free 2
  replace p0_lt := p0.lt
  replace p1_0 := p1.cell (i := 0) rfl
  replace p1_1 := p1.cell (i := 1) rfl
  replace p1_2 := p1.cell (i := 2) rfl
  replace p1_f0 := p1.free 0
  replace p1_f1 := p1.free 1
  replace p1_f2 := p1.free 2
  replace p1_lt := p1.lt
  replace p2_0 := p2.cell (i := 0) rfl
  replace p2_1 := p2.cell (i := 1) rfl
  replace p2_2 := p2.cell (i := 2) rfl
  replace p2_3 := p2.cell (i := 3) rfl
  replace p2_f0 := p2.free 0
  replace p2_f1 := p2.free 1
  replace p2_f2 := p2.free 2
  replace p2_f3 := p2.free 3
  replace p2_lt := p2.lt
  skip
  skip
  skip
  replace ub_0 := ub.cell (i := 0) rfl
  replace ub_1 := ub.cell (i := 1) rfl
  replace ub_2 := ub.cell (i := 2) rfl
  replace db_0 := db.cell (i := 0) rfl
  replace db_1 := db.cell (i := 1) rfl
  replace db_2 := db.cell (i := 2) rfl
  replace mb_0 := mb.cell (i := 0) rfl
  replace mb_1 := mb.cell (i := 1) rfl
  replace mb_2 := mb.cell (i := 2) rfl
  refine wp_region_noPanic ?_
  refine wp_region_held_drew (S := (fun w' => w'.cell? ⟨w.heap.size, 0, none⟩ = some (.bool b) ∧ w'.cell? ⟨w.heap.size, 1, none⟩ = some (.slice a n c) ∧ w'.cell? ⟨w.heap.size, 2, none⟩ = some (.slice a2 n2 c2) ∧ w'.cell? ⟨w.heap.size + 1, 0, none⟩ = some (.bool b') ∧ w'.cell? ⟨w.heap.size + 1, 1, none⟩ = some (.slice a' n' c') ∧ w'.cell? ⟨w.heap.size + 1, 2, none⟩ = some (.slice a2' n2' c2') ∧ w'.cell? ⟨w.heap.size + 1 + 1, 0, none⟩ = some (.bool bx) ∧ w'.cell? ⟨w.heap.size + 1 + 1, 1, none⟩ = some (.slice ax nx cx) ∧ w'.cell? ⟨w.heap.size + 1 + 1, 2, none⟩ = some (.bool by1) ∧ w'.cell? ⟨w.heap.size + 1 + 1, 3, none⟩ = some (.slice ay ny cy) ∧ w'.cell? ⟨pu, 0, none⟩ = some (.bool false) ∧ w'.cell? ⟨pu, 1, none⟩ = some (.slice au nu cu) ∧ w'.cell? ⟨pu, 2, none⟩ = some (.slice au2 nu2 cu2) ∧ w'.cell? ⟨pd, 0, none⟩ = some (.bool false) ∧ w'.cell? ⟨pd, 1, none⟩ = some (.slice ad nd cd) ∧ w'.cell? ⟨pd, 2, none⟩ = some (.slice ad2 nd2 cd2) ∧ w'.cell? ⟨pm, 0, none⟩ = some (.bool false) ∧ w'.cell? ⟨pm, 1, none⟩ = some (.slice none 0 0) ∧ w'.cell? ⟨pm, 2, none⟩ = some (.slice none 0 0))) (by as_aux_lemma => kernel_rfl) ⟨p0_0, p0_1, p0_2, p1_0, p1_1, p1_2, p2_0, p2_1, p2_2, p2_3, ub_0, ub_1, ub_2, db_0, db_1, db_2, mb_0, mb_1, mb_2⟩ (fun hHeld => ?_)
  refine takeY 0 78 hHeld ?_
  refine takeY 1 79 hHeld ?_
  refine takeY 2 80 hHeld ?_
  refine passY 3 81 hHeld ?_
  refine passY 4 82 hHeld ?_
  refine passY 5 83 hHeld ?_
  refine skipY 6 84 hHeld ?_
  refine takeY 7 85 hHeld ?_
  refine takeY 8 86 hHeld ?_
  refine takeY 9 87 hHeld ?_
  refine takeY 10 88 hHeld ?_
  refine takeY 11 89 hHeld ?_
  refine takeY 12 90 hHeld ?_
  refine takeY 13 91 hHeld ?_
  refine takeY 14 92 hHeld ?_
  refine takeY 15 93 hHeld ?_
  refine stepD 16 rfl (by as_aux_lemma => kernel_rfl) (fun Kc hKc => ?_)
  refine Eq.mpr (if_pos (by as_aux_lemma => kernel_rfl)) ?_
  go_simp
  refine (r11Add_ref K (by omega) _ b a a2 n c n2 c2 x (HXL.out.ext hE0) b' a' a2' n' c' n2' c2' y (HYL.out.ext hE0) HS1 hn2 HCX.out qs HQS).mono ?_; rintro e v1 ⟨a7, n7, c7, a8, n8, c8, rfl, g1, g2, hE1⟩; replace db := db.ext hE1; replace db_0 := db.cell (i := 0) rfl; replace db_1 := db.cell (i := 1) rfl; replace db_2 := db.cell (i := 2) rfl; replace mb := mb.ext hE1; replace mb_0 := mb.cell (i := 0) rfl; replace mb_1 := mb.cell (i := 1) rfl; replace mb_2 := mb.cell (i := 2) rfl; replace p0 := p0.ext hE1; replace p0_0 := p0.cell (i := 0) rfl; replace p0_1 := p0.cell (i := 1) rfl; replace p0_2 := p0.cell (i := 2) rfl; replace p1 := p1.ext hE1; replace p1_0 := p1.cell (i := 0) rfl; replace p1_1 := p1.cell (i := 1) rfl; replace p1_2 := p1.cell (i := 2) rfl; replace p2 := p2.ext hE1; replace p2_0 := p2.cell (i := 0) rfl; replace p2_1 := p2.cell (i := 1) rfl; replace p2_2 := p2.cell (i := 2) rfl; replace p2_3 := p2.cell (i := 3) rfl; replace ub := ub.ext hE1; replace ub_0 := ub.cell (i := 0) rfl; replace ub_1 := ub.cell (i := 1) rfl; replace ub_2 := ub.cell (i := 2) rfl; replace hu1 := hu1.ext (Nat.le_refl _) hE1; replace hu2 := hu2.ext (Nat.le_refl _) hE1; replace hd1 := hd1.ext (Nat.le_refl _) hE1; replace hd2 := hd2.ext (Nat.le_refl _) hE1; replace hE0 := Ext.trans hE0 hE1
  go_wp2_with fail
  refine hKc.out _ _ ⟨p0_0, p0_1, p0_2, p1_0, p1_1, p1_2, p2_0, p2_1, p2_2, p2_3, ub_0, ub_1, ub_2, db_0, db_1, db_2, mb_0, mb_1, mb_2⟩ (fun hHeld => ?_)
  clear hKc Kc
  try simp only [Act.put, List.setIfInBounds_toArray, List.set_cons_zero, List.set_cons_succ]
  refine stepD 17 rfl (by as_aux_lemma => kernel_rfl) (fun Kc hKc => ?_)
  refine Eq.mpr (if_pos (by as_aux_lemma => kernel_rfl)) ?_
  go_simp
  refine (right_yes _ false au a7 au2 a8 nu cu n7 c7 nu2 cu2 n8 c8 _ _ hu1 g1 hu2 g2).mono ?_; rintro e v2 ⟨rfl, hE1⟩; replace db := db.ext hE1; replace db_0 := db.cell (i := 0) rfl; replace db_1 := db.cell (i := 1) rfl; replace db_2 := db.cell (i := 2) rfl; replace mb := mb.ext hE1; replace mb_0 := mb.cell (i := 0) rfl; replace mb_1 := mb.cell (i := 1) rfl; replace mb_2 := mb.cell (i := 2) rfl; replace p0 := p0.ext hE1; replace p0_0 := p0.cell (i := 0) rfl; replace p0_1 := p0.cell (i := 1) rfl; replace p0_2 := p0.cell (i := 2) rfl; replace p1 := p1.ext hE1; replace p1_0 := p1.cell (i := 0) rfl; replace p1_1 := p1.cell (i := 1) rfl; replace p1_2 := p1.cell (i := 2) rfl; replace p2 := p2.ext hE1; replace p2_0 := p2.cell (i := 0) rfl; replace p2_1 := p2.cell (i := 1) rfl; replace p2_2 := p2.cell (i := 2) rfl; replace p2_3 := p2.cell (i := 3) rfl; replace ub := ub.ext hE1; replace ub_0 := ub.cell (i := 0) rfl; replace ub_1 := ub.cell (i := 1) rfl; replace ub_2 := ub.cell (i := 2) rfl; replace hd1 := hd1.ext (Nat.le_refl _) hE1; replace hd2 := hd2.ext (Nat.le_refl _) hE1; clear hu1 hu2 g1 g2; replace hE0 := Ext.trans hE0 hE1
  go_wp2_with fail
  refine hKc.out _ _ ⟨p0_0, p0_1, p0_2, p1_0, p1_1, p1_2, p2_0, p2_1, p2_2, p2_3, ub_0, ub_1, ub_2, db_0, db_1, db_2, mb_0, mb_1, mb_2⟩ (fun hHeld => ?_)
  clear hKc Kc
  try simp only [Act.put, List.setIfInBounds_toArray, List.set_cons_zero, List.set_cons_succ]
  refine takeY 18 96 hHeld ?_
  refine takeY 19 97 hHeld ?_
  refine takeY 20 98 hHeld ?_
  refine takeY 21 99 hHeld ?_
  refine takeY 22 100 hHeld ?_
  refine takeY 23 101 hHeld ?_
  refine passY 24 102 hHeld ?_
  refine passY 25 103 hHeld ?_
  refine passY 26 104 hHeld ?_
  refine skipY 27 105 hHeld ?_
  refine takeY 28 106 hHeld ?_
  refine takeY 29 107 hHeld ?_
  refine takeY 30 108 hHeld ?_
  refine takeY 31 109 hHeld ?_
  refine takeY 32 110 hHeld ?_
  refine takeY 33 111 hHeld ?_
  refine takeY 34 112 hHeld ?_
  refine takeY 35 113 hHeld ?_
  refine takeY 36 114 hHeld ?_
  refine stepD 37 rfl (by as_aux_lemma => kernel_rfl) (fun Kc hKc => ?_)
  refine Eq.mpr (if_pos (by as_aux_lemma => kernel_rfl)) ?_
  go_simp
  refine (r11Sub_ref K (by omega) hK1 _ b a a2 n c n2 c2 x (HXL.out.ext hE0) b' a' a2' n' c' n2' c2' y (HYL.out.ext hE0) HS1 hn2 HCX.out qd HQD).mono ?_; rintro e v1 ⟨a7, n7, c7, a8, n8, c8, rfl, g1, g2, hE1⟩; replace db := db.ext hE1; replace db_0 := db.cell (i := 0) rfl; replace db_1 := db.cell (i := 1) rfl; replace db_2 := db.cell (i := 2) rfl; replace mb := mb.ext hE1; replace mb_0 := mb.cell (i := 0) rfl; replace mb_1 := mb.cell (i := 1) rfl; replace mb_2 := mb.cell (i := 2) rfl; replace p0 := p0.ext hE1; replace p0_0 := p0.cell (i := 0) rfl; replace p0_1 := p0.cell (i := 1) rfl; replace p0_2 := p0.cell (i := 2) rfl; replace p1 := p1.ext hE1; replace p1_0 := p1.cell (i := 0) rfl; replace p1_1 := p1.cell (i := 1) rfl; replace p1_2 := p1.cell (i := 2) rfl; replace p2 := p2.ext hE1; replace p2_0 := p2.cell (i := 0) rfl; replace p2_1 := p2.cell (i := 1) rfl; replace p2_2 := p2.cell (i := 2) rfl; replace p2_3 := p2.cell (i := 3) rfl; replace ub := ub.ext hE1; replace ub_0 := ub.cell (i := 0) rfl; replace ub_1 := ub.cell (i := 1) rfl; replace ub_2 := ub.cell (i := 2) rfl; replace hd1 := hd1.ext (Nat.le_refl _) hE1; replace hd2 := hd2.ext (Nat.le_refl _) hE1; replace hE0 := Ext.trans hE0 hE1
  go_wp2_with fail
  refine hKc.out _ _ ⟨p0_0, p0_1, p0_2, p1_0, p1_1, p1_2, p2_0, p2_1, p2_2, p2_3, ub_0, ub_1, ub_2, db_0, db_1, db_2, mb_0, mb_1, mb_2⟩ (fun hHeld => ?_)
  clear hKc Kc
  try simp only [Act.put, List.setIfInBounds_toArray, List.set_cons_zero, List.set_cons_succ]
  refine stepD 38 rfl (by as_aux_lemma => kernel_rfl) (fun Kc hKc => ?_)
  refine Eq.mpr (if_pos (by as_aux_lemma => kernel_rfl)) ?_
  go_simp
  refine (right_yes _ false ad a7 ad2 a8 nd cd n7 c7 nd2 cd2 n8 c8 _ _ hd1 g1 hd2 g2).mono ?_; rintro e v2 ⟨rfl, hE1⟩; replace db := db.ext hE1; replace db_0 := db.cell (i := 0) rfl; replace db_1 := db.cell (i := 1) rfl; replace db_2 := db.cell (i := 2) rfl; replace mb := mb.ext hE1; replace mb_0 := mb.cell (i := 0) rfl; replace mb_1 := mb.cell (i := 1) rfl; replace mb_2 := mb.cell (i := 2) rfl; replace p0 := p0.ext hE1; replace p0_0 := p0.cell (i := 0) rfl; replace p0_1 := p0.cell (i := 1) rfl; replace p0_2 := p0.cell (i := 2) rfl; replace p1 := p1.ext hE1; replace p1_0 := p1.cell (i := 0) rfl; replace p1_1 := p1.cell (i := 1) rfl; replace p1_2 := p1.cell (i := 2) rfl; replace p2 := p2.ext hE1; replace p2_0 := p2.cell (i := 0) rfl; replace p2_1 := p2.cell (i := 1) rfl; replace p2_2 := p2.cell (i := 2) rfl; replace p2_3 := p2.cell (i := 3) rfl; replace ub := ub.ext hE1; replace ub_0 := ub.cell (i := 0) rfl; replace ub_1 := ub.cell (i := 1) rfl; replace ub_2 := ub.cell (i := 2) rfl; clear hd1 hd2 g1 g2; replace hE0 := Ext.trans hE0 hE1
  go_wp2_with fail
  refine hKc.out _ _ ⟨p0_0, p0_1, p0_2, p1_0, p1_1, p1_2, p2_0, p2_1, p2_2, p2_3, ub_0, ub_1, ub_2, db_0, db_1, db_2, mb_0, mb_1, mb_2⟩ (fun hHeld => ?_)
  clear hKc Kc
  try simp only [Act.put, List.setIfInBounds_toArray, List.set_cons_zero, List.set_cons_succ]
  refine takeY 39 117 hHeld ?_
  refine takeY 40 118 hHeld ?_
  refine takeY 41 119 hHeld ?_
  refine takeY 42 120 hHeld ?_
  refine takeY 43 121 hHeld ?_
  refine takeY 44 122 hHeld ?_
  refine takeY 45 123 hHeld ?_
  refine takeY 46 124 hHeld ?_
  refine takeY 47 125 hHeld ?_
  refine takeY 48 126 hHeld ?_
  refine stepD 49 rfl (by as_aux_lemma => kernel_rfl) (fun Kc hKc => ?_)
  refine Eq.mpr (if_pos (by as_aux_lemma => kernel_rfl)) ?_
  go_simp
  refine (refused_yes _ s2).mono ?_; rintro e v2 ⟨rfl, hE1⟩; replace db := db.ext hE1; replace db_0 := db.cell (i := 0) rfl; replace db_1 := db.cell (i := 1) rfl; replace db_2 := db.cell (i := 2) rfl; replace mb := mb.ext hE1; replace mb_0 := mb.cell (i := 0) rfl; replace mb_1 := mb.cell (i := 1) rfl; replace mb_2 := mb.cell (i := 2) rfl; replace p0 := p0.ext hE1; replace p0_0 := p0.cell (i := 0) rfl; replace p0_1 := p0.cell (i := 1) rfl; replace p0_2 := p0.cell (i := 2) rfl; replace p1 := p1.ext hE1; replace p1_0 := p1.cell (i := 0) rfl; replace p1_1 := p1.cell (i := 1) rfl; replace p1_2 := p1.cell (i := 2) rfl; replace p2 := p2.ext hE1; replace p2_0 := p2.cell (i := 0) rfl; replace p2_1 := p2.cell (i := 1) rfl; replace p2_2 := p2.cell (i := 2) rfl; replace p2_3 := p2.cell (i := 3) rfl; replace ub := ub.ext hE1; replace ub_0 := ub.cell (i := 0) rfl; replace ub_1 := ub.cell (i := 1) rfl; replace ub_2 := ub.cell (i := 2) rfl; replace hE0 := Ext.trans hE0 hE1
  go_wp2_with fail
  refine hKc.out _ _ ⟨p0_0, p0_1, p0_2, p1_0, p1_1, p1_2, p2_0, p2_1, p2_2, p2_3, ub_0, ub_1, ub_2, db_0, db_1, db_2, mb_0, mb_1, mb_2⟩ (fun hHeld => ?_)
  clear hKc Kc
  try simp only [Act.put, List.setIfInBounds_toArray, List.set_cons_zero, List.set_cons_succ]
  refine takeY 50 128 hHeld ?_
  refine takeY 51 129 hHeld ?_
  refine passY 52 130 hHeld ?_
  refine passY 53 131 hHeld ?_
  refine passY 54 132 hHeld ?_
  refine passY 55 133 hHeld ?_
  refine passY 56 134 hHeld ?_
  refine passY 57 135 hHeld ?_
  refine passY 58 136 hHeld ?_
  refine skipY 59 137 hHeld ?_
  refine skipY 60 138 hHeld ?_
  refine passY 61 139 hHeld ?_
  refine takeY 62 140 hHeld ?_
  refine takeY 63 141 hHeld ?_
  refine takeY 64 21 hHeld ?_
  refine wpAnyH_done (by as_aux_lemma => kernel_rfl) ?_ _
  refine NoPanic.normal ?_
  exact hQ _ _ _ _ _ _ _ _ _ _ _ _ _ _ _ _ _ _ _ _ _ _ _ _ _ _ _ _ _ _ _ _ _ _ _ _ _ _ _ _ _ _ _ _ _ _ _ _ _ _ _ _ _ _ _ _ _ _ _ _ _ _ _ _ _ (Lib.hid hE0)
set_option maxRecDepth 1000000 in
set_option maxHeartbeats 40000000 in
theorem sums_r13_3 (K : Nat) (hK : 16 * K + 16777216 ≤ 549755813888) (hK1 : 1 ≤ K) (w w9 : World) (b : Bool) (a a2 : Option Addr) (n c n2 c2 : Nat) (x : Int × List (List Int)) (HXL : Hid (MatS K w9 b a n c a2 n2 c2 x.1 x.2)) (b' : Bool) (a' a2' : Option Addr) (n' c' n2' c2' : Nat) (y : Int × List (List Int)) (HYL : Hid (MatS K w9 b' a' n' c' a2' n2' c2' y.1 y.2)) (bx by1 : Bool) (ax ay : Option Addr) (nx cx ny cy : Nat) (q : Int × Int) (HQL : Hid ((rFr K).ok 0 w9 [.bool bx, .slice ax nx cx, .bool by1, .slice ay ny cy] q)) (hn2 : n2 ≤ 1048576) (HCX : Hid (colsOf x.2 ≤ 1048576)) (s1 s2 : Int) (HS1 : Hid (joinE x y = s1)) (HS2 : Hid (scaleE x q = s2)) (qs qd qm : List (List Rat)) (HQS : Hid (joinQ (· + ·) (fracs x.1 x.2) (fracs y.1 y.2) n2 (colsOf x.2) = qs)) (HQD : Hid (joinQ (· - ·) (fracs x.1 x.2) (fracs y.1 y.2) n2 (colsOf x.2) = qd)) (HQM : Hid (scaleQ (fracs x.1 x.2) (frR q) n2 (colsOf x.2) = qm)) (HP0 : Hid (Blk w9 w.heap.size 28 #[.bool b, .slice a n c, .slice a2 n2 c2])) (HP1 : Hid (Blk w9 (w.heap.size + 1) 28 #[.bool b', .slice a' n' c', .slice a2' n2' c2'])) (HP2 : Hid (Blk w9 (w.heap.size + 1 + 1) 75 #[.bool bx, .slice ax nx cx, .bool by1, .slice ay ny cy])) (pu pd pm : Nat) (bu : Bool) (au au2 : Option Addr) (nu cu nu2 cu2 : Nat) (bd : Bool) (ad ad2 : Option Addr) (nd cd nd2 cd2 : Nat) (bm : Bool) (am am2 : Option Addr) (nm cm nm2 cm2 : Nat) (HUB : Hid (Blk w9 pu 28 #[.bool bu, .slice au nu cu, .slice au2 nu2 cu2])) (HDB : Hid (Blk w9 pd 28 #[.bool bd, .slice ad nd cd, .slice ad2 nd2 cd2])) (HMB : Hid (Blk w9 pm 28 #[.bool bm, .slice am nm cm, .slice am2 nm2 cm2])) (HKu : Hid (s1 = 0 → bu = false ∧ NatS 0 w9 au nu cu (limbs (nrmD qs)) ∧ Sl rInts 0 w9 au2 nu2 cu2 (rawM (nrmZ qs)))) (HKd : Hid (s1 = 0 → bd = false ∧ NatS 0 w9 ad nd cd (limbs (nrmD qd)) ∧ Sl rInts 0 w9 ad2 nd2 cd2 (rawM (nrmZ qd)))) (HKm : Hid (s2 = 0 → bm = false ∧ NatS 0 w9 am nm cm (limbs (nrmD qm)) ∧ Sl rInts 0 w9 am2 nm2 cm2 (rawM (nrmZ qm)))) (HMu : Hid (s1 ≠ 0 → bu = false ∧ au = none ∧ nu = 0 ∧ cu = 0 ∧ au2 = none ∧ nu2 = 0 ∧ cu2 = 0)) (HMd : Hid (s1 ≠ 0 → bd = false ∧ ad = none ∧ nd = 0 ∧ cd = 0 ∧ ad2 = none ∧ nd2 = 0 ∧ cd2 = 0)) (HMm : Hid (s2 ≠ 0 → bm = false ∧ am = none ∧ nm = 0 ∧ cm = 0 ∧ am2 = none ∧ nm2 = 0 ∧ cm2 = 0)) (x0 x1 x2 x6 x7 x8 x16 x17 x18 x19 x21 x22 x23 x24 x25 x26 x27 x28 x29 x30 x31 x32 x33 x34 x35 x36 x37 x38 x39 x40 x41 x42 x43 x44 x45 x46 x47 x48 x49 x50 x51 x52 x53 x54 x55 x56 x57 x58 x59 x60 x61 x62 x63 x64 x65 x66 x67 x68 x69 x70 x71 x72 x73 x74 x75 x76 x77 x78 x79 x80 x81 x82 x83 x84 x85 x86 x87 x88 x89 x90 x91 x92 x93 x94 x95 x96 x97 x98 x99 x100 x101 x102 x103 x104 x105 x106 x107 x108 x109 x110 x111 x112 x113 x114 x115 x116 x117 x118 x119 x120 x121 x122 x123 x124 x125 x126 x127 x128 x129 x130 x131 x132 x133 x134 x135 x136 x137 x138 x139 x140 x141 x142 x143 x144 x145 x146 x147 x148 x149 x150 x151 x152 x153 x154 x155 : Value) (Q : Exit → Act → World → Prop) (hQ : ∀ (v78 v79 v80 v81 v82 v83 v84 v85 v86 v87 v88 v89 v90 v91 v92 v93 v94 v95 v96 v97 v98 v99 v100 v101 v102 v103 v104 v105 v106 v107 v108 v109 v110 v111 v112 v113 v114 v115 v116 v117 v118 v119 v120 v121 v122 v123 v124 v125 v126 v127 v128 v129 v130 v131 v132 v133 v134 v135 v136 v137 v138 v139 v140 v141 : Value) (w' : World), Hid (Ext w9 w') → Q .normal { tmps := #[x0, x1, x2, .pointer (some ⟨w.heap.size, 0, none⟩), .pointer (some ⟨w.heap.size + 1, 0, none⟩), .pointer (some ⟨w.heap.size + 1 + 1, 0, none⟩), x6, x7, x8, .pointer (some ⟨pu, 0, none⟩), .int .i64 s1, .pointer (some ⟨pd, 0, none⟩), .int .i64 s1, .pointer (some ⟨pm, 0, none⟩), .int .i64 s2, .int .i64 s1, x16, x17, x18, x19, .int .i64 s2, .bool true, x22, x23, x24, x25, x26, x27, x28, x29, x30, x31, x32, x33, x34, x35, x36, x37, x38, x39, x40, x41, x42, x43, x44, x45, x46, x47, x48, x49, x50, x51, x52, x53, x54, x55, x56, x57, x58, x59, x60, x61, x62, x63, x64, x65, x66, x67, x68, x69, x70, x71, x72, x73, x74, x75, x76, x77, v78, v79, v80, v81, v82, v83, v84, v85, v86, v87, v88, v89, v90, v91, v92, v93, v94, v95, v96, v97, v98, v99, v100, v101, v102, v103, v104, v105, v106, v107, v108, v109, v110, v111, v112, v113, v114, v115, v116, v117, v118, v119, v120, v121, v122, v123, v124, v125, v126, v127, v128, v129, v130, v131, v132, v133, v134, v135, v136, v137, v138, v139, v140, v141, x142, x143, x144, x145, x146, x147, x148, x149, x150, x151, x152, x153, x154, x155], defers := [] } w') (t1 : ¬ s1 = 0) (t2 : s2 = 0) :
    Code.wp Tryz.prog (sumsReg 13) Q { tmps := #[x0, x1, x2, .pointer (some ⟨w.heap.size, 0, none⟩), .pointer (some ⟨w.heap.size + 1, 0, none⟩), .pointer (some ⟨w.heap.size + 1 + 1, 0, none⟩), x6, x7, x8, .pointer (some ⟨pu, 0, none⟩), .int .i64 s1, .pointer (some ⟨pd, 0, none⟩), .int .i64 s1, .pointer (some ⟨pm, 0, none⟩), .int .i64 s2, .int .i64 s1, x16, x17, x18, x19, .int .i64 s2, x21, x22, x23, x24, x25, x26, x27, x28, x29, x30, x31, x32, x33, x34, x35, x36, x37, x38, x39, x40, x41, x42, x43, x44, x45, x46, x47, x48, x49, x50, x51, x52, x53, x54, x55, x56, x57, x58, x59, x60, x61, x62, x63, x64, x65, x66, x67, x68, x69, x70, x71, x72, x73, x74, x75, x76, x77, x78, x79, x80, x81, x82, x83, x84, x85, x86, x87, x88, x89, x90, x91, x92, x93, x94, x95, x96, x97, x98, x99, x100, x101, x102, x103, x104, x105, x106, x107, x108, x109, x110, x111, x112, x113, x114, x115, x116, x117, x118, x119, x120, x121, x122, x123, x124, x125, x126, x127, x128, x129, x130, x131, x132, x133, x134, x135, x136, x137, x138, x139, x140, x141, x142, x143, x144, x145, x146, x147, x148, x149, x150, x151, x152, x153, x154, x155], defers := [] } w9 := by
  conv => arg 2; whnf
  have hE0 : Ext w9 w9.drew := (Below.refl _ _).drew
  have p0 := HP0.out.ext hE0
  have p1 := HP1.out.ext hE0
  have p2 := HP2.out.ext hE0
  have ub := HUB.out.ext hE0
  have db := HDB.out.ext hE0
  have mb := HMB.out.ext hE0
  clear HP0 HP1 HP2 HUB HDB HMB
  have u1 : (s1 != 0) = true := by simpa using t1
  have u2 : (s1 == 0) = false := by simpa using t1
  obtain ⟨rfl, rfl, rfl, rfl, rfl, rfl, rfl⟩ := HMu.out t1
  obtain ⟨rfl, rfl, rfl, rfl, rfl, rfl, rfl⟩ := HMd.out t1
  clear t1
  subst t2
  obtain ⟨rfl, hm1, hm2⟩ := HKm.out rfl
  replace hm1 := hm1.ext (Nat.le_refl _) hE0
  replace hm2 := hm2.ext (Nat.le_refl _) hE0
  skip
  skip
  skip
  replace p0_0 := p0.cell (i := 0) rfl
  replace p0_1 := p0.cell (i := 1) rfl
  replace p0_2 := p0.cell (i := 2) rfl
  replace p0_f0 := p0.free 0
  replace p0_f1 := p0.free 1
  replace p0_f2 := p0.free 2
  replace p0_lt := p0.lt
  replace p1_0 := p1.cell (i := 0) rfl
  replace p1_1 := p1.cell (i := 1) rfl
  replace p1_2 := p1.cell (i := 2) rfl
  replace p1_f0 := p1.free 0
  replace p1_f1 := p1.free 1
  replace p1_f2 := p1.free 2
  replace p1_lt := p1.lt
  replace p2_0 := p2.cell (i := 0) rfl
  replace p2_1 := p2.cell (i := 1) rfl
  replace p2_2 := p2.cell (i := 2) rfl
  replace p2_3 := p2.cell (i := 3) rfl
  replace p2_f0 := p2.free 0
  replace p2_f1 := p2.free 1
  replace p2_f2 := p2.free 2
  replace p2_f3 := p2.free 3
  replace p2_lt := p2.lt
  skip
  skip
  skip
  replace ub_0 := ub.cell (i := 0) rfl
  replace ub_1 := ub.cell (i := 1) rfl
  replace ub_2 := ub.cell (i := 2) rfl
  replace db_0 := db.cell (i := 0) rfl
  replace db_1 := db.cell (i := 1) rfl
  replace db_2 := db.cell (i := 2) rfl
  replace mb_0 := mb.cell (i := 0) rfl
  replace mb_1 := mb.cell (i := 1) rfl
  replace mb_2 := mb.cell (i := 2) rfl
  refine wp_region_noPanic ?_
  refine wp_region_held_drew (S := (fun w' => w'.cell? ⟨w.heap.size, 0, none⟩ = some (.bool b) ∧ w'.cell? ⟨w.heap.size, 1, none⟩ = some (.slice a n c) ∧ w'.cell? ⟨w.heap.size, 2, none⟩ = some (.slice a2 n2 c2) ∧ w'.cell? ⟨w.heap.size + 1, 0, none⟩ = some (.bool b') ∧ w'.cell? ⟨w.heap.size + 1, 1, none⟩ = some (.slice a' n' c') ∧ w'.cell? ⟨w.heap.size + 1, 2, none⟩ = some (.slice a2' n2' c2') ∧ w'.cell? ⟨w.heap.size + 1 + 1, 0, none⟩ = some (.bool bx) ∧ w'.cell? ⟨w.heap.size + 1 + 1, 1, none⟩ = some (.slice ax nx cx) ∧ w'.cell? ⟨w.heap.size + 1 + 1, 2, none⟩ = some (.bool by1) ∧ w'.cell? ⟨w.heap.size + 1 + 1, 3, none⟩ = some (.slice ay ny cy) ∧ w'.cell? ⟨pu, 0, none⟩ = some (.bool false) ∧ w'.cell? ⟨pu, 1, none⟩ = some (.slice none 0 0) ∧ w'.cell? ⟨pu, 2, none⟩ = some (.slice none 0 0) ∧ w'.cell? ⟨pd, 0, none⟩ = some (.bool false) ∧ w'.cell? ⟨pd, 1, none⟩ = some (.slice none 0 0) ∧ w'.cell? ⟨pd, 2, none⟩ = some (.slice none 0 0) ∧ w'.cell? ⟨pm, 0, none⟩ = some (.bool false) ∧ w'.cell? ⟨pm, 1, none⟩ = some (.slice am nm cm) ∧ w'.cell? ⟨pm, 2, none⟩ = some (.slice am2 nm2 cm2))) (by as_aux_lemma => kernel_rfl) ⟨p0_0, p0_1, p0_2, p1_0, p1_1, p1_2, p2_0, p2_1, p2_2, p2_3, ub_0, ub_1, ub_2, db_0, db_1, db_2, mb_0, mb_1, mb_2⟩ (fun hHeld => ?_)
  refine takeY 0 78 hHeld ?_
  refine takeY 1 79 hHeld ?_
  refine takeY 2 80 hHeld ?_
  refine takeY 3 81 hHeld ?_
  refine takeY 4 82 hHeld ?_
  refine takeY 5 83 hHeld ?_
  refine stepD 6 rfl (by as_aux_lemma => kernel_rfl) (fun Kc hKc => ?_)
  refine Eq.mpr (if_pos (by as_aux_lemma => kernel_rfl)) ?_
  go_simp
  refine (refused_yes _ s1).mono ?_; rintro e v2 ⟨rfl, hE1⟩; replace db := db.ext hE1; replace db_0 := db.cell (i := 0) rfl; replace db_1 := db.cell (i := 1) rfl; replace db_2 := db.cell (i := 2) rfl; replace mb := mb.ext hE1; replace mb_0 := mb.cell (i := 0) rfl; replace mb_1 := mb.cell (i := 1) rfl; replace mb_2 := mb.cell (i := 2) rfl; replace p0 := p0.ext hE1; replace p0_0 := p0.cell (i := 0) rfl; replace p0_1 := p0.cell (i := 1) rfl; replace p0_2 := p0.cell (i := 2) rfl; replace p1 := p1.ext hE1; replace p1_0 := p1.cell (i := 0) rfl; replace p1_1 := p1.cell (i := 1) rfl; replace p1_2 := p1.cell (i := 2) rfl; replace p2 := p2.ext hE1; replace p2_0 := p2.cell (i := 0) rfl; replace p2_1 := p2.cell (i := 1) rfl; replace p2_2 := p2.cell (i := 2) rfl; replace p2_3 := p2.cell (i := 3) rfl; replace ub := ub.ext hE1; replace ub_0 := ub.cell (i := 0) rfl; replace ub_1 := ub.cell (i := 1) rfl; replace ub_2 := ub.cell (i := 2) rfl; replace hm1 := hm1.ext (Nat.le_refl _) hE1; replace hm2 := hm2.ext (Nat.le_refl _) hE1; replace hE0 := Ext.trans hE0 hE1
  go_wp2_with fail
  refine hKc.out _ _ ⟨p0_0, p0_1, p0_2, p1_0, p1_1, p1_2, p2_0, p2_1, p2_2, p2_3, ub_0, ub_1, ub_2, db_0, db_1, db_2, mb_0, mb_1, mb_2⟩ (fun hHeld => ?_)
  clear hKc Kc
  try simp only [Act.put, List.setIfInBounds_toArray, List.set_cons_zero, List.set_cons_succ]
  refine takeY 7 85 hHeld ?_
  refine takeY 8 86 hHeld ?_
  refine passY 9 87 hHeld ?_
  refine passY 10 88 hHeld ?_
  refine passY 11 89 hHeld ?_
  refine passY 12 90 hHeld ?_
  refine passY 13 91 hHeld ?_
  refine passY 14 92 hHeld ?_
  refine passY 15 93 hHeld ?_
  refine skipY 16 94 hHeld ?_
  refine skipY 17 95 hHeld ?_
  refine passY 18 96 hHeld ?_
  refine takeY 19 97 hHeld ?_
  refine takeY 20 98 hHeld ?_
  refine takeY 21 99 hHeld ?_
  refine takeY 22 100 hHeld ?_
  refine takeY 23 101 hHeld ?_
  refine takeY 24 102 hHeld ?_
  refine takeY 25 103 hHeld ?_
  refine takeY 26 104 hHeld ?_
  refine stepD 27 rfl (by as_aux_lemma => kernel_rfl) (fun Kc hKc => ?_)
  refine Eq.mpr (if_pos (by as_aux_lemma => kernel_rfl)) ?_
  go_simp
  refine (refused_yes _ s1).mono ?_; rintro e v2 ⟨rfl, hE1⟩; replace db := db.ext hE1; replace db_0 := db.cell (i := 0) rfl; replace db_1 := db.cell (i := 1) rfl; replace db_2 := db.cell (i := 2) rfl; replace mb := mb.ext hE1; replace mb_0 := mb.cell (i := 0) rfl; replace mb_1 := mb.cell (i := 1) rfl; replace mb_2 := mb.cell (i := 2) rfl; replace p0 := p0.ext hE1; replace p0_0 := p0.cell (i := 0) rfl; replace p0_1 := p0.cell (i := 1) rfl; replace p0_2 := p0.cell (i := 2) rfl; replace p1 := p1.ext hE1; replace p1_0 := p1.cell (i := 0) rfl; replace p1_1 := p1.cell (i := 1) rfl; replace p1_2 := p1.cell (i := 2) rfl; replace p2 := p2.ext hE1; replace p2_0 := p2.cell (i := 0) rfl; replace p2_1 := p2.cell (i := 1) rfl; replace p2_2 := p2.cell (i := 2) rfl; replace p2_3 := p2.cell (i := 3) rfl; replace ub := ub.ext hE1; replace ub_0 := ub.cell (i := 0) rfl; replace ub_1 := ub.cell (i := 1) rfl; replace ub_2 := ub.cell (i := 2) rfl; replace hm1 := hm1.ext (Nat.le_refl _) hE1; replace hm2 := hm2.ext (Nat.le_refl _) hE1; replace hE0 := Ext.trans hE0 hE1
  go_wp2_with fail
  refine hKc.out _ _ ⟨p0_0, p0_1, p0_2, p1_0, p1_1, p1_2, p2_0, p2_1, p2_2, p2_3, ub_0, ub_1, ub_2, db_0, db_1, db_2, mb_0, mb_1, mb_2⟩ (fun hHeld => ?_)
  clear hKc Kc
  try simp only [Act.put, List.setIfInBounds_toArray, List.set_cons_zero, List.set_cons_succ]
  refine takeY 28 106 hHeld ?_
  refine takeY 29 107 hHeld ?_
  refine passY 30 108 hHeld ?_
  refine passY 31 109 hHeld ?_
  refine passY 32 110 hHeld ?_
  refine passY 33 111 hHeld ?_
  refine passY 34 112 hHeld ?_
  refine passY 35 113 hHeld ?_
  refine passY 36 114 hHeld ?_
  refine skipY 37 115 hHeld ?_
  refine skipY 38 116 hHeld ?_
  refine passY 39 117 hHeld ?_
  refine takeY 40 118 hHeld ?_
  refine takeY 41 119 hHeld ?_
  refine takeY 42 120 hHeld ?_
  refine takeY 43 121 hHeld ?_
  refine takeY 44 122 hHeld ?_
  refine takeY 45 123 hHeld ?_
  refine passY 46 124 hHeld ?_
  refine passY 47 125 hHeld ?_
  refine passY 48 126 hHeld ?_
  refine skipY 49 127 hHeld ?_
  refine takeY 50 128 hHeld ?_
  refine takeY 51 129 hHeld ?_
  refine takeY 52 130 hHeld ?_
  refine takeY 53 131 hHeld ?_
  refine takeY 54 132 hHeld ?_
  refine takeY 55 133 hHeld ?_
  refine takeY 56 134 hHeld ?_
  refine takeY 57 135 hHeld ?_
  refine takeY 58 136 hHeld ?_
  refine stepD 59 rfl (by as_aux_lemma => kernel_rfl) (fun Kc hKc => ?_)
  refine Eq.mpr (if_pos (by as_aux_lemma => kernel_rfl)) ?_
  go_simp
  refine (r11Scale_ref K (by omega) _ b a a2 n c n2 c2 x (HXL.out.ext hE0) bx by1 ax ay nx cx ny cy q (rFr_ext HQL.out hE0) HS2 hn2 HCX.out qm HQM).mono ?_; rintro e v1 ⟨a7, n7, c7, a8, n8, c8, rfl, g1, g2, hE1⟩; replace db := db.ext hE1; replace db_0 := db.cell (i := 0) rfl; replace db_1 := db.cell (i := 1) rfl; replace db_2 := db.cell (i := 2) rfl; replace mb := mb.ext hE1; replace mb_0 := mb.cell (i := 0) rfl; replace mb_1 := mb.cell (i := 1) rfl; replace mb_2 := mb.cell (i := 2) rfl; replace p0 := p0.ext hE1; replace p0_0 := p0.cell (i := 0) rfl; replace p0_1 := p0.cell (i := 1) rfl; replace p0_2 := p0.cell (i := 2) rfl; replace p1 := p1.ext hE1; replace p1_0 := p1.cell (i := 0) rfl; replace p1_1 := p1.cell (i := 1) rfl; replace p1_2 := p1.cell (i := 2) rfl; replace p2 := p2.ext hE1; replace p2_0 := p2.cell (i := 0) rfl; replace p2_1 := p2.cell (i := 1) rfl; replace p2_2 := p2.cell (i := 2) rfl; replace p2_3 := p2.cell (i := 3) rfl; replace ub := ub.ext hE1; replace ub_0 := ub.cell (i := 0) rfl; replace ub_1 := ub.cell (i := 1) rfl; replace ub_2 := ub.cell (i := 2) rfl; replace hm1 := hm1.ext (Nat.le_refl _) hE1; replace hm2 := hm2.ext (Nat.le_refl _) hE1; replace hE0 := Ext.trans hE0 hE1
  go_wp2_with fail
  refine hKc.out _ _ ⟨p0_0, p0_1, p0_2, p1_0, p1_1, p1_2, p2_0, p2_1, p2_2, p2_3, ub_0, ub_1, ub_2, db_0, db_1, db_2, mb_0, mb_1, mb_2⟩ (fun hHeld => ?_)
  clear hKc Kc
  try simp only [Act.put, List.setIfInBounds_toArray, List.set_cons_zero, List.set_cons_succ]
  refine stepD 60 rfl (by as_aux_lemma => kernel_rfl) (fun Kc hKc => ?_)
  refine Eq.mpr (if_pos (by as_aux_lemma => kernel_rfl)) ?_
  go_simp
  refine (right_yes _ false am a7 am2 a8 nm cm n7 c7 nm2 cm2 n8 c8 _ _ hm1 g1 hm2 g2).mono ?_; rintro e v2 ⟨rfl, hE1⟩; replace db := db.ext hE1; replace db_0 := db.cell (i := 0) rfl; replace db_1 := db.cell (i := 1) rfl; replace db_2 := db.cell (i := 2) rfl; replace mb := mb.ext hE1; replace mb_0 := mb.cell (i := 0) rfl; replace mb_1 := mb.cell (i := 1) rfl; replace mb_2 := mb.cell (i := 2) rfl; replace p0 := p0.ext hE1; replace p0_0 := p0.cell (i := 0) rfl; replace p0_1 := p0.cell (i := 1) rfl; replace p0_2 := p0.cell (i := 2) rfl; replace p1 := p1.ext hE1; replace p1_0 := p1.cell (i := 0) rfl; replace p1_1 := p1.cell (i := 1) rfl; replace p1_2 := p1.cell (i := 2) rfl; replace p2 := p2.ext hE1; replace p2_0 := p2.cell (i := 0) rfl; replace p2_1 := p2.cell (i := 1) rfl; replace p2_2 := p2.cell (i := 2) rfl; replace p2_3 := p2.cell (i := 3) rfl; replace ub := ub.ext hE1; replace ub_0 := ub.cell (i := 0) rfl; replace ub_1 := ub.cell (i := 1) rfl; replace ub_2 := ub.cell (i := 2) rfl; clear hm1 hm2 g1 g2; replace hE0 := Ext.trans hE0 hE1
  go_wp2_with fail
  refine hKc.out _ _ ⟨p0_0, p0_1, p0_2, p1_0, p1_1, p1_2, p2_0, p2_1, p2_2, p2_3, ub_0, ub_1, ub_2, db_0, db_1, db_2, mb_0, mb_1, mb_2⟩ (fun hHeld => ?_)
  clear hKc Kc
  try simp only [Act.put, List.setIfInBounds_toArray, List.set_cons_zero, List.set_cons_succ]
  refine takeY 61 139 hHeld ?_
  refine takeY 62 140 hHeld ?_
  refine takeY 63 141 hHeld ?_
  refine takeY 64 21 hHeld ?_
  refine wpAnyH_done (by as_aux_lemma => kernel_rfl) ?_ _
  refine NoPanic.normal ?_
  exact hQ _ _ _ _ _ _ _ _ _ _ _ _ _ _ _ _ _ _ _ _ _ _ _ _ _ _ _ _ _ _ _ _ _ _ _ _ _ _ _ _ _ _ _ _ _ _ _ _ _ _ _ _ _ _ _ _ _ _ _ _ _ _ _ _ _ (Lib.hid hE0)
set_option maxRecDepth 1000000 in
set_option maxHeartbeats 40000000 in
theorem sums_r13_4 (K : Nat) (hK : 16 * K + 16777216 ≤ 549755813888) (hK1 : 1 ≤ K) (w w9 : World) (b : Bool) (a a2 : Option Addr) (n c n2 c2 : Nat) (x : Int × List (List Int)) (HXL : Hid (MatS K w9 b a n c a2 n2 c2 x.1 x.2)) (b' : Bool) (a' a2' : Option Addr) (n' c' n2' c2' : Nat) (y : Int × List (List Int)) (HYL : Hid (MatS K w9 b' a' n' c' a2' n2' c2' y.1 y.2)) (bx by1 : Bool) (ax ay : Option Addr) (nx cx ny cy : Nat) (q : Int × Int) (HQL : Hid ((rFr K).ok 0 w9 [.bool bx, .slice ax nx cx, .bool by1, .slice ay ny cy] q)) (hn2 : n2 ≤ 1048576) (HCX : Hid (colsOf x.2 ≤ 1048576)) (s1 s2 : Int) (HS1 : Hid (joinE x y = s1)) (HS2 : Hid (scaleE x q = s2)) (qs qd qm : List (List Rat)) (HQS : Hid (joinQ (· + ·) (fracs x.1 x.2) (fracs y.1 y.2) n2 (colsOf x.2) = qs)) (HQD : Hid (joinQ (· - ·) (fracs x.1 x.2) (fracs y.1 y.2) n2 (colsOf x.2) = qd)) (HQM : Hid (scaleQ (fracs x.1 x.2) (frR q) n2 (colsOf x.2) = qm)) (HP0 : Hid (Blk w9 w.heap.size 28 #[.bool b, .slice a n c, .slice a2 n2 c2])) (HP1 : Hid (Blk w9 (w.heap.size + 1) 28 #[.bool b', .slice a' n' c', .slice a2' n2' c2'])) (HP2 : Hid (Blk w9 (w.heap.size + 1 + 1) 75 #[.bool bx, .slice ax nx cx, .bool by1, .slice ay ny cy])) (pu pd pm : Nat) (bu : Bool) (au au2 : Option Addr) (nu cu nu2 cu2 : Nat) (bd : Bool) (ad ad2 : Option Addr) (nd cd nd2 cd2 : Nat) (bm : Bool) (am am2 : Option Addr) (nm cm nm2 cm2 : Nat) (HUB : Hid (Blk w9 pu 28 #[.bool bu, .slice au nu cu, .slice au2 nu2 cu2])) (HDB : Hid (Blk w9 pd 28 #[.bool bd, .slice ad nd cd, .slice ad2 nd2 cd2])) (HMB : Hid (Blk w9 pm 28 #[.bool bm, .slice am nm cm, .slice am2 nm2 cm2])) (HKu : Hid (s1 = 0 → bu = false ∧ NatS 0 w9 au nu cu (limbs (nrmD qs)) ∧ Sl rInts 0 w9 au2 nu2 cu2 (rawM (nrmZ qs)))) (HKd : Hid (s1 = 0 → bd = false ∧ NatS 0 w9 ad nd cd (limbs (nrmD qd)) ∧ Sl rInts 0 w9 ad2 nd2 cd2 (rawM (nrmZ qd)))) (HKm : Hid (s2 = 0 → bm = false ∧ NatS 0 w9 am nm cm (limbs (nrmD qm)) ∧ Sl rInts 0 w9 am2 nm2 cm2 (rawM (nrmZ qm)))) (HMu : Hid (s1 ≠ 0 → bu = false ∧ au = none ∧ nu = 0 ∧ cu = 0 ∧ au2 = none ∧ nu2 = 0 ∧ cu2 = 0)) (HMd : Hid (s1 ≠ 0 → bd = false ∧ ad = none ∧ nd = 0 ∧ cd = 0 ∧ ad2 = none ∧ nd2 = 0 ∧ cd2 = 0)) (HMm : Hid (s2 ≠ 0 → bm = false ∧ am = none ∧ nm = 0 ∧ cm = 0 ∧ am2 = none ∧ nm2 = 0 ∧ cm2 = 0)) (x0 x1 x2 x6 x7 x8 x16 x17 x18 x19 x21 x22 x23 x24 x25 x26 x27 x28 x29 x30 x31 x32 x33 x34 x35 x36 x37 x38 x39 x40 x41 x42 x43 x44 x45 x46 x47 x48 x49 x50 x51 x52 x53 x54 x55 x56 x57 x58 x59 x60 x61 x62 x63 x64 x65 x66 x67 x68 x69 x70 x71 x72 x73 x74 x75 x76 x77 x78 x79 x80 x81 x82 x83 x84 x85 x86 x87 x88 x89 x90 x91 x92 x93 x94 x95 x96 x97 x98 x99 x100 x101 x102 x103 x104 x105 x106 x107 x108 x109 x110 x111 x112 x113 x114 x115 x116 x117 x118 x119 x120 x121 x122 x123 x124 x125 x126 x127 x128 x129 x130 x131 x132 x133 x134 x135 x136 x137 x138 x139 x140 x141 x142 x143 x144 x145 x146 x147 x148 x149 x150 x151 x152 x153 x154 x155 : Value) (Q : Exit → Act → World → Prop) (hQ : ∀ (v78 v79 v80 v81 v82 v83 v84 v85 v86 v87 v88 v89 v90 v91 v92 v93 v94 v95 v96 v97 v98 v99 v100 v101 v102 v103 v104 v105 v106 v107 v108 v109 v110 v111 v112 v113 v114 v115 v116 v117 v118 v119 v120 v121 v122 v123 v124 v125 v126 v127 v128 v129 v130 v131 v132 v133 v134 v135 v136 v137 v138 v139 v140 v141 : Value) (w' : World), Hid (Ext w9 w') → Q .normal { tmps := #[x0, x1, x2, .pointer (some ⟨w.heap.size, 0, none⟩), .pointer (some ⟨w.heap.size + 1, 0, none⟩), .pointer (some ⟨w.heap.size + 1 + 1, 0, none⟩), x6, x7, x8, .pointer (some ⟨pu, 0, none⟩), .int .i64 s1, .pointer (some ⟨pd, 0, none⟩), .int .i64 s1, .pointer (some ⟨pm, 0, none⟩), .int .i64 s2, .int .i64 s1, x16, x17, x18, x19, .int .i64 s2, .bool true, x22, x23, x24, x25, x26, x27, x28, x29, x30, x31, x32, x33, x34, x35, x36, x37, x38, x39, x40, x41, x42, x43, x44, x45, x46, x47, x48, x49, x50, x51, x52, x53, x54, x55, x56, x57, x58, x59, x60, x61, x62, x63, x64, x65, x66, x67, x68, x69, x70, x71, x72, x73, x74, x75, x76, x77, v78, v79, v80, v81, v82, v83, v84, v85, v86, v87, v88, v89, v90, v91, v92, v93, v94, v95, v96, v97, v98, v99, v100, v101, v102, v103, v104, v105, v106, v107, v108, v109, v110, v111, v112, v113, v114, v115, v116, v117, v118, v119, v120, v121, v122, v123, v124, v125, v126, v127, v128, v129, v130, v131, v132, v133, v134, v135, v136, v137, v138, v139, v140, v141, x142, x143, x144, x145, x146, x147, x148, x149, x150, x151, x152, x153, x154, x155], defers := [] } w') (t1 : ¬ s1 = 0) (t2 : ¬ s2 = 0) :
    Code.wp Tryz.prog (sumsReg 13) Q { tmps := #[x0, x1, x2, .pointer (some ⟨w.heap.size, 0, none⟩), .pointer (some ⟨w.heap.size + 1, 0, none⟩), .pointer (some ⟨w.heap.size + 1 + 1, 0, none⟩), x6, x7, x8, .pointer (some ⟨pu, 0, none⟩), .int .i64 s1, .pointer (some ⟨pd, 0, none⟩), .int .i64 s1, .pointer (some ⟨pm, 0, none⟩), .int .i64 s2, .int .i64 s1, x16, x17, x18, x19, .int .i64 s2, x21, x22, x23, x24, x25, x26, x27, x28, x29, x30, x31, x32, x33, x34, x35, x36, x37, x38, x39, x40, x41, x42, x43, x44, x45, x46, x47, x48, x49, x50, x51, x52, x53, x54, x55, x56, x57, x58, x59, x60, x61, x62, x63, x64, x65, x66, x67, x68, x69, x70, x71, x72, x73, x74, x75, x76, x77, x78, x79, x80, x81, x82, x83, x84, x85, x86, x87, x88, x89, x90, x91, x92, x93, x94, x95, x96, x97, x98, x99, x100, x101, x102, x103, x104, x105, x106, x107, x108, x109, x110, x111, x112, x113, x114, x115, x116, x117, x118, x119, x120, x121, x122, x123, x124, x125, x126, x127, x128, x129, x130, x131, x132, x133, x134, x135, x136, x137, x138, x139, x140, x141, x142, x143, x144, x145, x146, x147, x148, x149, x150, x151, x152, x153, x154, x155], defers := [] } w9 := by
  conv => arg 2; whnf
  have hE0 : Ext w9 w9.drew := (Below.refl _ _).drew
  have p0 := HP0.out.ext hE0
  have p1 := HP1.out.ext hE0
  have p2 := HP2.out.ext hE0
  have ub := HUB.out.ext hE0
  have db := HDB.out.ext hE0
  have mb := HMB.out.ext hE0
  clear HP0 HP1 HP2 HUB HDB HMB
  have u1 : (s1 != 0) = true := by simpa using t1
  have u2 : (s1 == 0) = false := by simpa using t1
  obtain ⟨rfl, rfl, rfl, rfl, rfl, rfl, rfl⟩ := HMu.out t1
  obtain ⟨rfl, rfl, rfl, rfl, rfl, rfl, rfl⟩ := HMd.out t1
  clear t1
  have u3 : (s2 != 0) = true := by simpa using t2
  have u4 : (s2 == 0) = false := by simpa using t2
  obtain ⟨rfl, rfl, rfl, rfl, rfl, rfl, rfl⟩ := HMm.out t2
  clear t2
  skip
  skip
  skip
  replace p0_0 := p0.cell (i := 0) rfl
  replace p0_1 := p0.cell (i := 1) rfl
  replace p0_2 := p0.cell (i := 2) rfl
  replace p0_f0 := p0.free 0
  replace p0_f1 := p0.free 1
  replace p0_f2 := p0.free 2
  replace p0_lt := p0.lt
  replace p1_0 := p1.cell (i := 0) rfl
  replace p1_1 := p1.cell (i := 1) rfl
  replace p1_2 := p1.cell (i := 2) rfl
  replace p1_f0 := p1.free 0
  replace p1_f1 := p1.free 1
  replace p1_f2 := p1.free 2
  replace p1_lt := p1.lt
  replace p2_0 := p2.cell (i := 0) rfl
  replace p2_1 := p2.cell (i := 1) rfl
  replace p2_2 := p2.cell (i := 2) rfl
  replace p2_3 := p2.cell (i := 3) rfl
  replace p2_f0 := p2.free 0
  replace p2_f1 := p2.free 1
  replace p2_f2 := p2.free 2
  replace p2_f3 := p2.free 3
  replace p2_lt := p2.lt
  skip
  skip
  skip
  replace ub_0 := ub.cell (i := 0) rfl
  replace ub_1 := ub.cell (i := 1) rfl
  replace ub_2 := ub.cell (i := 2) rfl
  replace db_0 := db.cell (i := 0) rfl
  replace db_1 := db.cell (i := 1) rfl
  replace db_2 := db.cell (i := 2) rfl
  replace mb_0 := mb.cell (i := 0) rfl
  replace mb_1 := mb.cell (i := 1) rfl
  replace mb_2 := mb.cell (i := 2) rfl
  refine wp_region_noPanic ?_
  refine wp_region_held_drew (S := (fun w' => w'.cell? ⟨w.heap.size, 0, none⟩ = some (.bool b) ∧ w'.cell? ⟨w.heap.size, 1, none⟩ = some (.slice a n c) ∧ w'.cell? ⟨w.heap.size, 2, none⟩ = some (.slice a2 n2 c2) ∧ w'.cell? ⟨w.heap.size + 1, 0, none⟩ = some (.bool b') ∧ w'.cell? ⟨w.heap.size + 1, 1, none⟩ = some (.slice a' n' c') ∧ w'.cell? ⟨w.heap.size + 1, 2, none⟩ = some (.slice a2' n2' c2') ∧ w'.cell? ⟨w.heap.size + 1 + 1, 0, none⟩ = some (.bool bx) ∧ w'.cell? ⟨w.heap.size + 1 + 1, 1, none⟩ = some (.slice ax nx cx) ∧ w'.cell? ⟨w.heap.size + 1 + 1, 2, none⟩ = some (.bool by1) ∧ w'.cell? ⟨w.heap.size + 1 + 1, 3, none⟩ = some (.slice ay ny cy) ∧ w'.cell? ⟨pu, 0, none⟩ = some (.bool false) ∧ w'.cell? ⟨pu, 1, none⟩ = some (.slice none 0 0) ∧ w'.cell? ⟨pu, 2, none⟩ = some (.slice none 0 0) ∧ w'.cell? ⟨pd, 0, none⟩ = some (.bool false) ∧ w'.cell? ⟨pd, 1, none⟩ = some (.slice none 0 0) ∧ w'.cell? ⟨pd, 2, none⟩ = some (.slice none 0 0) ∧ w'.cell? ⟨pm, 0, none⟩ = some (.bool false) ∧ w'.cell? ⟨pm, 1, none⟩ = some (.slice none 0 0) ∧ w'.cell? ⟨pm, 2, none⟩ = some (.slice none 0 0))) (by as_aux_lemma => kernel_rfl) ⟨p0_0, p0_1, p0_2, p1_0, p1_1, p1_2, p2_0, p2_1, p2_2, p2_3, ub_0, ub_1, ub_2, db_0, db_1, db_2, mb_0, mb_1, mb_2⟩ (fun hHeld => ?_)
  refine takeY 0 78 hHeld ?_
  refine takeY 1 79 hHeld ?_
  refine takeY 2 80 hHeld ?_
  refine takeY 3 81 hHeld ?_
  refine takeY 4 82 hHeld ?_
  refine takeY 5 83 hHeld ?_
  refine stepD 6 rfl (by as_aux_lemma => kernel_rfl) (fun Kc hKc => ?_)
  refine Eq.mpr (if_pos (by as_aux_lemma => kernel_rfl)) ?_
  go_simp
  refine (refused_yes _ s1).mono ?_; rintro e v2 ⟨rfl, hE1⟩; replace db := db.ext hE1; replace db_0 := db.cell (i := 0) rfl; replace db_1 := db.cell (i := 1) rfl; replace db_2 := db.cell (i := 2) rfl; replace mb := mb.ext hE1; replace mb_0 := mb.cell (i := 0) rfl; replace mb_1 := mb.cell (i := 1) rfl; replace mb_2 := mb.cell (i := 2) rfl; replace p0 := p0.ext hE1; replace p0_0 := p0.cell (i := 0) rfl; replace p0_1 := p0.cell (i := 1) rfl; replace p0_2 := p0.cell (i := 2) rfl; replace p1 := p1.ext hE1; replace p1_0 := p1.cell (i := 0) rfl; replace p1_1 := p1.cell (i := 1) rfl; replace p1_2 := p1.cell (i := 2) rfl; replace p2 := p2.ext hE1; replace p2_0 := p2.cell (i := 0) rfl; replace p2_1 := p2.cell (i := 1) rfl; replace p2_2 := p2.cell (i := 2) rfl; replace p2_3 := p2.cell (i := 3) rfl; replace ub := ub.ext hE1; replace ub_0 := ub.cell (i := 0) rfl; replace ub_1 := ub.cell (i := 1) rfl; replace ub_2 := ub.cell (i := 2) rfl; replace hE0 := Ext.trans hE0 hE1
  go_wp2_with fail
  refine hKc.out _ _ ⟨p0_0, p0_1, p0_2, p1_0, p1_1, p1_2, p2_0, p2_1, p2_2, p2_3, ub_0, ub_1, ub_2, db_0, db_1, db_2, mb_0, mb_1, mb_2⟩ (fun hHeld => ?_)
  clear hKc Kc
  try simp only [Act.put, List.setIfInBounds_toArray, List.set_cons_zero, List.set_cons_succ]
  refine takeY 7 85 hHeld ?_
  refine takeY 8 86 hHeld ?_
  refine passY 9 87 hHeld ?_
  refine passY 10 88 hHeld ?_
  refine passY 11 89 hHeld ?_
  refine passY 12 90 hHeld ?_
  refine passY 13 91 hHeld ?_
  refine passY 14 92 hHeld ?_
  refine passY 15 93 hHeld ?_
  refine skipY 16 94 hHeld ?_
  refine skipY 17 95 hHeld ?_
  refine passY 18 96 hHeld ?_
  refine takeY 19 97 hHeld ?_
  refine takeY 20 98 hHeld ?_
  refine takeY 21 99 hHeld ?_
  refine takeY 22 100 hHeld ?_
  refine takeY 23 101 hHeld ?_
  refine takeY 24 102 hHeld ?_
  refine takeY 25 103 hHeld ?_
  refine takeY 26 104 hHeld ?_
  refine stepD 27 rfl (by as_aux_lemma => kernel_rfl) (fun Kc hKc => ?_)
  refine Eq.mpr (if_pos (by as_aux_lemma => kernel_rfl)) ?_
  go_simp
  refine (refused_yes _ s1).mono ?_; rintro e v2 ⟨rfl, hE1⟩; replace db := db.ext hE1; replace db_0 := db.cell (i := 0) rfl; replace db_1 := db.cell (i := 1) rfl; replace db_2 := db.cell (i := 2) rfl; replace mb := mb.ext hE1; replace mb_0 := mb.cell (i := 0) rfl; replace mb_1 := mb.cell (i := 1) rfl; replace mb_2 := mb.cell (i := 2) rfl; replace p0 := p0.ext hE1; replace p0_0 := p0.cell (i := 0) rfl; replace p0_1 := p0.cell (i := 1) rfl; replace p0_2 := p0.cell (i := 2) rfl; replace p1 := p1.ext hE1; replace p1_0 := p1.cell (i := 0) rfl; replace p1_1 := p1.cell (i := 1) rfl; replace p1_2 := p1.cell (i := 2) rfl; replace p2 := p2.ext hE1; replace p2_0 := p2.cell (i := 0) rfl; replace p2_1 := p2.cell (i := 1) rfl; replace p2_2 := p2.cell (i := 2) rfl; replace p2_3 := p2.cell (i := 3) rfl; replace ub := ub.ext hE1; replace ub_0 := ub.cell (i := 0) rfl; replace ub_1 := ub.cell (i := 1) rfl; replace ub_2 := ub.cell (i := 2) rfl; replace hE0 := Ext.trans hE0 hE1
  go_wp2_with fail
  refine hKc.out _ _ ⟨p0_0, p0_1, p0_2, p1_0, p1_1, p1_2, p2_0, p2_1, p2_2, p2_3, ub_0, ub_1, ub_2, db_0, db_1, db_2, mb_0, mb_1, mb_2⟩ (fun hHeld => ?_)
  clear hKc Kc
  try simp only [Act.put, List.setIfInBounds_toArray, List.set_cons_zero, List.set_cons_succ]
  refine takeY 28 106 hHeld ?_
  refine takeY 29 107 hHeld ?_
  refine passY 30 108 hHeld ?_
  refine passY 31 109 hHeld ?_
  refine passY 32 110 hHeld ?_
  refine passY 33 111 hHeld ?_
  refine passY 34 112 hHeld ?_
  refine passY 35 113 hHeld ?_
  refine passY 36 114 hHeld ?_
  refine skipY 37 115 hHeld ?_
  refine skipY 38 116 hHeld ?_
  refine passY 39 117 hHeld ?_
  refine takeY 40 118 hHeld ?_
  refine takeY 41 119 hHeld ?_
  refine takeY 42 120 hHeld ?_
  refine takeY 43 121 hHeld ?_
  refine takeY 44 122 hHeld ?_
  refine takeY 45 123 hHeld ?_
  refine takeY 46 124 hHeld ?_
  refine takeY 47 125 hHeld ?_
  refine takeY 48 126 hHeld ?_
  refine stepD 49 rfl (by as_aux_lemma => kernel_rfl) (fun Kc hKc => ?_)
  refine Eq.mpr (if_pos (by as_aux_lemma => kernel_rfl)) ?_
  go_simp
  refine (refused_yes _ s2).mono ?_; rintro e v2 ⟨rfl, hE1⟩; replace db := db.ext hE1; replace db_0 := db.cell (i := 0) rfl; replace db_1 := db.cell (i := 1) rfl; replace db_2 := db.cell (i := 2) rfl; replace mb := mb.ext hE1; replace mb_0 := mb.cell (i := 0) rfl; replace mb_1 := mb.cell (i := 1) rfl; replace mb_2 := mb.cell (i := 2) rfl; replace p0 := p0.ext hE1; replace p0_0 := p0.cell (i := 0) rfl; replace p0_1 := p0.cell (i := 1) rfl; replace p0_2 := p0.cell (i := 2) rfl; replace p1 := p1.ext hE1; replace p1_0 := p1.cell (i := 0) rfl; replace p1_1 := p1.cell (i := 1) rfl; replace p1_2 := p1.cell (i := 2) rfl; replace p2 := p2.ext hE1; replace p2_0 := p2.cell (i := 0) rfl; replace p2_1 := p2.cell (i := 1) rfl; replace p2_2 := p2.cell (i := 2) rfl; replace p2_3 := p2.cell (i := 3) rfl; replace ub := ub.ext hE1; replace ub_0 := ub.cell (i := 0) rfl; replace ub_1 := ub.cell (i := 1) rfl; replace ub_2 := ub.cell (i := 2) rfl; replace hE0 := Ext.trans hE0 hE1
  go_wp2_with fail
  refine hKc.out _ _ ⟨p0_0, p0_1, p0_2, p1_0, p1_1, p1_2, p2_0, p2_1, p2_2, p2_3, ub_0, ub_1, ub_2, db_0, db_1, db_2, mb_0, mb_1, mb_2⟩ (fun hHeld => ?_)
  clear hKc Kc
  try simp only [Act.put, List.setIfInBounds_toArray, List.set_cons_zero, List.set_cons_succ]
  refine takeY 50 128 hHeld ?_
  refine takeY 51 129 hHeld ?_
  refine passY 52 130 hHeld ?_
  refine passY 53 131 hHeld ?_
  refine passY 54 132 hHeld ?_
  refine passY 55 133 hHeld ?_
  refine passY 56 134 hHeld ?_
  refine passY 57 135 hHeld ?_
  refine passY 58 136 hHeld ?_
  refine skipY 59 137 hHeld ?_
  refine skipY 60 138 hHeld ?_
  refine passY 61 139 hHeld ?_
  refine takeY 62 140 hHeld ?_
  refine takeY 63 141 hHeld ?_
  refine takeY 64 21 hHeld ?_
  refine wpAnyH_done (by as_aux_lemma => kernel_rfl) ?_ _
  refine NoPanic.normal ?_
  exact hQ _ _ _ _ _ _ _ _ _ _ _ _ _ _ _ _ _ _ _ _ _ _ _ _ _ _ _ _ _ _ _ _ _ _ _ _ _ _ _ _ _ _ _ _ _ _ _ _ _ _ _ _ _ _ _ _ _ _ _ _ _ _ _ _ _ (Lib.hid hE0)
theorem sums_r13 (K : Nat) (hK : 16 * K + 16777216 ≤ 549755813888) (hK1 : 1 ≤ K) (w w9 : World) (b : Bool) (a a2 : Option Addr) (n c n2 c2 : Nat) (x : Int × List (List Int)) (HXL : Hid (MatS K w9 b a n c a2 n2 c2 x.1 x.2)) (b' : Bool) (a' a2' : Option Addr) (n' c' n2' c2' : Nat) (y : Int × List (List Int)) (HYL : Hid (MatS K w9 b' a' n' c' a2' n2' c2' y.1 y.2)) (bx by1 : Bool) (ax ay : Option Addr) (nx cx ny cy : Nat) (q : Int × Int) (HQL : Hid ((rFr K).ok 0 w9 [.bool bx, .slice ax nx cx, .bool by1, .slice ay ny cy] q)) (hn2 : n2 ≤ 1048576) (HCX : Hid (colsOf x.2 ≤ 1048576)) (s1 s2 : Int) (HS1 : Hid (joinE x y = s1)) (HS2 : Hid (scaleE x q = s2)) (qs qd qm : List (List Rat)) (HQS : Hid (joinQ (· + ·) (fracs x.1 x.2) (fracs y.1 y.2) n2 (colsOf x.2) = qs)) (HQD : Hid (joinQ (· - ·) (fracs x.1 x.2) (fracs y.1 y.2) n2 (colsOf x.2) = qd)) (HQM : Hid (scaleQ (fracs x.1 x.2) (frR q) n2 (colsOf x.2) = qm)) (HP0 : Hid (Blk w9 w.heap.size 28 #[.bool b, .slice a n c, .slice a2 n2 c2])) (HP1 : Hid (Blk w9 (w.heap.size + 1) 28 #[.bool b', .slice a' n' c', .slice a2' n2' c2'])) (HP2 : Hid (Blk w9 (w.heap.size + 1 + 1) 75 #[.bool bx, .slice ax nx cx, .bool by1, .slice ay ny cy])) (pu pd pm : Nat) (bu : Bool) (au au2 : Option Addr) (nu cu nu2 cu2 : Nat) (bd : Bool) (ad ad2 : Option Addr) (nd cd nd2 cd2 : Nat) (bm : Bool) (am am2 : Option Addr) (nm cm nm2 cm2 : Nat) (HUB : Hid (Blk w9 pu 28 #[.bool bu, .slice au nu cu, .slice au2 nu2 cu2])) (HDB : Hid (Blk w9 pd 28 #[.bool bd, .slice ad nd cd, .slice ad2 nd2 cd2])) (HMB : Hid (Blk w9 pm 28 #[.bool bm, .slice am nm cm, .slice am2 nm2 cm2])) (HKu : Hid (s1 = 0 → bu = false ∧ NatS 0 w9 au nu cu (limbs (nrmD qs)) ∧ Sl rInts 0 w9 au2 nu2 cu2 (rawM (nrmZ qs)))) (HKd : Hid (s1 = 0 → bd = false ∧ NatS 0 w9 ad nd cd (limbs (nrmD qd)) ∧ Sl rInts 0 w9 ad2 nd2 cd2 (rawM (nrmZ qd)))) (HKm : Hid (s2 = 0 → bm = false ∧ NatS 0 w9 am nm cm (limbs (nrmD qm)) ∧ Sl rInts 0 w9 am2 nm2 cm2 (rawM (nrmZ qm)))) (HMu : Hid (s1 ≠ 0 → bu = false ∧ au = none ∧ nu = 0 ∧ cu = 0 ∧ au2 = none ∧ nu2 = 0 ∧ cu2 = 0)) (HMd : Hid (s1 ≠ 0 → bd = false ∧ ad = none ∧ nd = 0 ∧ cd = 0 ∧ ad2 = none ∧ nd2 = 0 ∧ cd2 = 0)) (HMm : Hid (s2 ≠ 0 → bm = false ∧ am = none ∧ nm = 0 ∧ cm = 0 ∧ am2 = none ∧ nm2 = 0 ∧ cm2 = 0)) (x0 x1 x2 x6 x7 x8 x16 x17 x18 x19 x21 x22 x23 x24 x25 x26 x27 x28 x29 x30 x31 x32 x33 x34 x35 x36 x37 x38 x39 x40 x41 x42 x43 x44 x45 x46 x47 x48 x49 x50 x51 x52 x53 x54 x55 x56 x57 x58 x59 x60 x61 x62 x63 x64 x65 x66 x67 x68 x69 x70 x71 x72 x73 x74 x75 x76 x77 x78 x79 x80 x81 x82 x83 x84 x85 x86 x87 x88 x89 x90 x91 x92 x93 x94 x95 x96 x97 x98 x99 x100 x101 x102 x103 x104 x105 x106 x107 x108 x109 x110 x111 x112 x113 x114 x115 x116 x117 x118 x119 x120 x121 x122 x123 x124 x125 x126 x127 x128 x129 x130 x131 x132 x133 x134 x135 x136 x137 x138 x139 x140 x141 x142 x143 x144 x145 x146 x147 x148 x149 x150 x151 x152 x153 x154 x155 : Value) (Q : Exit → Act → World → Prop) (hQ : ∀ (v78 v79 v80 v81 v82 v83 v84 v85 v86 v87 v88 v89 v90 v91 v92 v93 v94 v95 v96 v97 v98 v99 v100 v101 v102 v103 v104 v105 v106 v107 v108 v109 v110 v111 v112 v113 v114 v115 v116 v117 v118 v119 v120 v121 v122 v123 v124 v125 v126 v127 v128 v129 v130 v131 v132 v133 v134 v135 v136 v137 v138 v139 v140 v141 : Value) (w' : World), Hid (Ext w9 w') → Q .normal { tmps := #[x0, x1, x2, .pointer (some ⟨w.heap.size, 0, none⟩), .pointer (some ⟨w.heap.size + 1, 0, none⟩), .pointer (some ⟨w.heap.size + 1 + 1, 0, none⟩), x6, x7, x8, .pointer (some ⟨pu, 0, none⟩), .int .i64 s1, .pointer (some ⟨pd, 0, none⟩), .int .i64 s1, .pointer (some ⟨pm, 0, none⟩), .int .i64 s2, .int .i64 s1, x16, x17, x18, x19, .int .i64 s2, .bool true, x22, x23, x24, x25, x26, x27, x28, x29, x30, x31, x32, x33, x34, x35, x36, x37, x38, x39, x40, x41, x42, x43, x44, x45, x46, x47, x48, x49, x50, x51, x52, x53, x54, x55, x56, x57, x58, x59, x60, x61, x62, x63, x64, x65, x66, x67, x68, x69, x70, x71, x72, x73, x74, x75, x76, x77, v78, v79, v80, v81, v82, v83, v84, v85, v86, v87, v88, v89, v90, v91, v92, v93, v94, v95, v96, v97, v98, v99, v100, v101, v102, v103, v104, v105, v106, v107, v108, v109, v110, v111, v112, v113, v114, v115, v116, v117, v118, v119, v120, v121, v122, v123, v124, v125, v126, v127, v128, v129, v130, v131, v132, v133, v134, v135, v136, v137, v138, v139, v140, v141, x142, x143, x144, x145, x146, x147, x148, x149, x150, x151, x152, x153, x154, x155], defers := [] } w') :
    Code.wp Tryz.prog (sumsReg 13) Q { tmps := #[x0, x1, x2, .pointer (some ⟨w.heap.size, 0, none⟩), .pointer (some ⟨w.heap.size + 1, 0, none⟩), .pointer (some ⟨w.heap.size + 1 + 1, 0, none⟩), x6, x7, x8, .pointer (some ⟨pu, 0, none⟩), .int .i64 s1, .pointer (some ⟨pd, 0, none⟩), .int .i64 s1, .pointer (some ⟨pm, 0, none⟩), .int .i64 s2, .int .i64 s1, x16, x17, x18, x19, .int .i64 s2, x21, x22, x23, x24, x25, x26, x27, x28, x29, x30, x31, x32, x33, x34, x35, x36, x37, x38, x39, x40, x41, x42, x43, x44, x45, x46, x47, x48, x49, x50, x51, x52, x53, x54, x55, x56, x57, x58, x59, x60, x61, x62, x63, x64, x65, x66, x67, x68, x69, x70, x71, x72, x73, x74, x75, x76, x77, x78, x79, x80, x81, x82, x83, x84, x85, x86, x87, x88, x89, x90, x91, x92, x93, x94, x95, x96, x97, x98, x99, x100, x101, x102, x103, x104, x105, x106, x107, x108, x109, x110, x111, x112, x113, x114, x115, x116, x117, x118, x119, x120, x121, x122, x123, x124, x125, x126, x127, x128, x129, x130, x131, x132, x133, x134, x135, x136, x137, x138, x139, x140, x141, x142, x143, x144, x145, x146, x147, x148, x149, x150, x151, x152, x153, x154, x155], defers := [] } w9 := by
  by_cases t1 : s1 = 0
  · by_cases t2 : s2 = 0
    · exact sums_r13_1 K hK hK1 w w9 b a a2 n c n2 c2 x HXL b' a' a2' n' c' n2' c2' y HYL bx by1 ax ay nx cx ny cy q HQL hn2 HCX s1 s2 HS1 HS2 qs qd qm HQS HQD HQM HP0 HP1 HP2 pu pd pm bu au au2 nu cu nu2 cu2 bd ad ad2 nd cd nd2 cd2 bm am am2 nm cm nm2 cm2 HUB HDB HMB HKu HKd HKm HMu HMd HMm x0 x1 x2 x6 x7 x8 x16 x17 x18 x19 x21 x22 x23 x24 x25 x26 x27 x28 x29 x30 x31 x32 x33 x34 x35 x36 x37 x38 x39 x40 x41 x42 x43 x44 x45 x46 x47 x48 x49 x50 x51 x52 x53 x54 x55 x56 x57 x58 x59 x60 x61 x62 x63 x64 x65 x66 x67 x68 x69 x70 x71 x72 x73 x74 x75 x76 x77 x78 x79 x80 x81 x82 x83 x84 x85 x86 x87 x88 x89 x90 x91 x92 x93 x94 x95 x96 x97 x98 x99 x100 x101 x102 x103 x104 x105 x106 x107 x108 x109 x110 x111 x112 x113 x114 x115 x116 x117 x118 x119 x120 x121 x122 x123 x124 x125 x126 x127 x128 x129 x130 x131 x132 x133 x134 x135 x136 x137 x138 x139 x140 x141 x142 x143 x144 x145 x146 x147 x148 x149 x150 x151 x152 x153 x154 x155 Q hQ t1 t2
    · exact sums_r13_2 K hK hK1 w w9 b a a2 n c n2 c2 x HXL b' a' a2' n' c' n2' c2' y HYL bx by1 ax ay nx cx ny cy q HQL hn2 HCX s1 s2 HS1 HS2 qs qd qm HQS HQD HQM HP0 HP1 HP2 pu pd pm bu au au2 nu cu nu2 cu2 bd ad ad2 nd cd nd2 cd2 bm am am2 nm cm nm2 cm2 HUB HDB HMB HKu HKd HKm HMu HMd HMm x0 x1 x2 x6 x7 x8 x16 x17 x18 x19 x21 x22 x23 x24 x25 x26 x27 x28 x29 x30 x31 x32 x33 x34 x35 x36 x37 x38 x39 x40 x41 x42 x43 x44 x45 x46 x47 x48 x49 x50 x51 x52 x53 x54 x55 x56 x57 x58 x59 x60 x61 x62 x63 x64 x65 x66 x67 x68 x69 x70 x71 x72 x73 x74 x75 x76 x77 x78 x79 x80 x81 x82 x83 x84 x85 x86 x87 x88 x89 x90 x91 x92 x93 x94 x95 x96 x97 x98 x99 x100 x101 x102 x103 x104 x105 x106 x107 x108 x109 x110 x111 x112 x113 x114 x115 x116 x117 x118 x119 x120 x121 x122 x123 x124 x125 x126 x127 x128 x129 x130 x131 x132 x133 x134 x135 x136 x137 x138 x139 x140 x141 x142 x143 x144 x145 x146 x147 x148 x149 x150 x151 x152 x153 x154 x155 Q hQ t1 t2
  · by_cases t2 : s2 = 0
    · exact sums_r13_3 K hK hK1 w w9 b a a2 n c n2 c2 x HXL b' a' a2' n' c' n2' c2' y HYL bx by1 ax ay nx cx ny cy q HQL hn2 HCX s1 s2 HS1 HS2 qs qd qm HQS HQD HQM HP0 HP1 HP2 pu pd pm bu au au2 nu cu nu2 cu2 bd ad ad2 nd cd nd2 cd2 bm am am2 nm cm nm2 cm2 HUB HDB HMB HKu HKd HKm HMu HMd HMm x0 x1 x2 x6 x7 x8 x16 x17 x18 x19 x21 x22 x23 x24 x25 x26 x27 x28 x29 x30 x31 x32 x33 x34 x35 x36 x37 x38 x39 x40 x41 x42 x43 x44 x45 x46 x47 x48 x49 x50 x51 x52 x53 x54 x55 x56 x57 x58 x59 x60 x61 x62 x63 x64 x65 x66 x67 x68 x69 x70 x71 x72 x73 x74 x75 x76 x77 x78 x79 x80 x81 x82 x83 x84 x85 x86 x87 x88 x89 x90 x91 x92 x93 x94 x95 x96 x97 x98 x99 x100 x101 x102 x103 x104 x105 x106 x107 x108 x109 x110 x111 x112 x113 x114 x115 x116 x117 x118 x119 x120 x121 x122 x123 x124 x125 x126 x127 x128 x129 x130 x131 x132 x133 x134 x135 x136 x137 x138 x139 x140 x141 x142 x143 x144 x145 x146 x147 x148 x149 x150 x151 x152 x153 x154 x155 Q hQ t1 t2
    · exact sums_r13_4 K hK hK1 w w9 b a a2 n c n2 c2 x HXL b' a' a2' n' c' n2' c2' y HYL bx by1 ax ay nx cx ny cy q HQL hn2 HCX s1 s2 HS1 HS2 qs qd qm HQS HQD HQM HP0 HP1 HP2 pu pd pm bu au au2 nu cu nu2 cu2 bd ad ad2 nd cd nd2 cd2 bm am am2 nm cm nm2 cm2 HUB HDB HMB HKu HKd HKm HMu HMd HMm x0 x1 x2 x6 x7 x8 x16 x17 x18 x19 x21 x22 x23 x24 x25 x26 x27 x28 x29 x30 x31 x32 x33 x34 x35 x36 x37 x38 x39 x40 x41 x42 x43 x44 x45 x46 x47 x48 x49 x50 x51 x52 x53 x54 x55 x56 x57 x58 x59 x60 x61 x62 x63 x64 x65 x66 x67 x68 x69 x70 x71 x72 x73 x74 x75 x76 x77 x78 x79 x80 x81 x82 x83 x84 x85 x86 x87 x88 x89 x90 x91 x92 x93 x94 x95 x96 x97 x98 x99 x100 x101 x102 x103 x104 x105 x106 x107 x108 x109 x110 x111 x112 x113 x114 x115 x116 x117 x118 x119 x120 x121 x122 x123 x124 x125 x126 x127 x128 x129 x130 x131 x132 x133 x134 x135 x136 x137 x138 x139 x140 x141 x142 x143 x144 x145 x146 x147 x148 x149 x150 x151 x152 x153 x154 x155 Q hQ t1 t2
end Go.Proofs.YtbhenelehhiakaaGreat
/-
  The law QmatSums: the walk.
-/
namespace Go.Proofs.YtbhenelehhiakaaGreat
open Go.RowKit

set_option maxRecDepth 100000 in
set_option maxHeartbeats 40000000 in
theorem sums_walk (K : Nat) (hK : 16 * K + 16777216 ≤ 549755813888) (hK1 : 1 ≤ K) (w : World) (b : Bool) (a a2 : Option Addr) (n c n2 c2 : Nat) (x : Int × List (List Int)) (h : MatS K w b a n c a2 n2 c2 x.1 x.2) (b' : Bool) (a' a2' : Option Addr) (n' c' n2' c2' : Nat) (y : Int × List (List Int)) (h' : MatS K w b' a' n' c' a2' n2' c2' y.1 y.2) (bx by1 : Bool) (ax ay : Option Addr) (nx cx ny cy : Nat) (q : Int × Int) (hqr : (rFr K).ok 0 w [.bool bx, .slice ax nx cx, .bool by1, .slice ay ny cy] q) (hrx : Hid (∀ zs ∈ x.2, zs.length ≤ 1048576)) (hry : Hid (∀ zs ∈ y.2, zs.length ≤ 1048576)) (hn2 : n2 ≤ 1048576) (hn2' : n2' ≤ 1048576) :
    Calls Tryz.prog 6 #[.agg #[.bool b, .slice a n c, .slice a2 n2 c2], .agg #[.bool b', .slice a' n' c', .slice a2' n2' c2'], .agg #[.bool bx, .slice ax nx cx, .bool by1, .slice ay ny cy]] w (Yes w) := by
  obtain ⟨l, xss, hx⟩ := h.raw
  obtain ⟨l', yss, hy⟩ := h'.raw
  have HX := Lib.hid hx
  have HY := Lib.hid hy
  have HRX : Hid (∀ zs ∈ x.2, zs.length ≤ 1099511627776) := Lib.hid (fun zs hz => Nat.le_trans (hrx.out zs hz) (by decide))
  have HRY : Hid (∀ zs ∈ y.2, zs.length ≤ 1099511627776) := Lib.hid (fun zs hz => Nat.le_trans (hry.out zs hz) (by decide))
  have hl := h.len2
  have hl' := h'.len2
  obtain ⟨mx, hmx⟩ : ∃ m, colsOf x.2 = m := ⟨_, rfl⟩
  obtain ⟨my, hmy⟩ : ∃ m, colsOf y.2 = m := ⟨_, rfl⟩
  obtain ⟨s0, hs0⟩ : ∃ s, checksE [x, y] = s := ⟨_, rfl⟩
  obtain ⟨s1, hs1⟩ : ∃ s, joinE x y = s := ⟨_, rfl⟩
  obtain ⟨s3, hs3⟩ : ∃ s, checkE x.1 x.2 = s := ⟨_, rfl⟩
  obtain ⟨s2, hs2⟩ : ∃ s, scaleE x q = s := ⟨_, rfl⟩
  obtain ⟨qs, hqs⟩ : ∃ t, joinQ (· + ·) (fracs x.1 x.2) (fracs y.1 y.2) n2 (colsOf x.2) = t := ⟨_, rfl⟩
  obtain ⟨qd, hqd⟩ : ∃ t, joinQ (· - ·) (fracs x.1 x.2) (fracs y.1 y.2) n2 (colsOf x.2) = t := ⟨_, rfl⟩
  obtain ⟨qm, hqm⟩ : ∃ t, scaleQ (fracs x.1 x.2) (frR q) n2 (colsOf x.2) = t := ⟨_, rfl⟩
  have HC1 : Hid (s1 = if s0 = 0 ∧ (¬ n2 = n2' ∨ ¬ mx = my) then 2 else s0) := Lib.hid (by
    rw [← hs1, ← hs0, ← hmx, ← hmy, ← hl', ← hl]
    unfold joinE
    by_cases g : checksE [x, y] = 0 <;> by_cases g2 : x.2.length = y.2.length <;> by_cases g3 : colsOf x.2 = colsOf y.2 <;> simp [g, g2, g3])
  have HC2 : Hid (s2 = if s3 = 0 ∧ q.2 = 0 then 6 else s3) := Lib.hid (by
    rw [← hs2, ← hs3]
    unfold scaleE
    by_cases g : checkE x.1 x.2 = 0 <;> by_cases g2 : q.2 = 0 <;> simp [g, g2])
  have HCX : Hid (colsOf x.2 ≤ 1048576) := Lib.hid (colsOf_le hrx.out)
  have HCY : Hid (colsOf y.2 ≤ 1048576) := Lib.hid (colsOf_le hry.out)
  have HMX := Lib.hid hmx
  have HMY := Lib.hid hmy
  have HS0 := Lib.hid hs0
  have HS1 := Lib.hid hs1
  have HS2 := Lib.hid hs2
  have HS3 := Lib.hid hs3
  have HQS := Lib.hid hqs
  have HQD := Lib.hid hqd
  have HQM := Lib.hid hqm
  have HXM := Lib.hid h
  have HYM := Lib.hid h'
  have HQR := Lib.hid hqr
  clear h h' hx hy hl hl' hmx hmy hs0 hs1 hs2 hs3 hqs hqd hqm hqr
  go_enter Tryz.func6, Tryz.ntmps6
  go_upto_region 1 with (fail)
  have p0 := Blk.new w 28 #[.bool b, .slice a n c, .slice a2 n2 c2]
  have p1 := Blk.new (w.alloc (Obj.cells #[.bool b, .slice a n c, .slice a2 n2 c2] 28)) 28 #[.bool b', .slice a' n' c', .slice a2' n2' c2']
  replace p0 := p0.ext ((Below.refl _ _).alloc (Nat.le_refl _) (Obj.cells #[.bool b', .slice a' n' c', .slice a2' n2' c2'] 28))
  have p2 := Blk.new ((w.alloc (Obj.cells #[.bool b, .slice a n c, .slice a2 n2 c2] 28)).alloc (Obj.cells #[.bool b', .slice a' n' c', .slice a2' n2' c2'] 28)) 75 #[.bool bx, .slice ax nx cx, .bool by1, .slice ay ny cy]
  replace p0 := p0.ext ((Below.refl _ _).alloc (Nat.le_refl _) (Obj.cells #[.bool bx, .slice ax nx cx, .bool by1, .slice ay ny cy] 75))
  replace p1 := p1.ext ((Below.refl _ _).alloc (Nat.le_refl _) (Obj.cells #[.bool bx, .slice ax nx cx, .bool by1, .slice ay ny cy] 75))
  have hEW : Ext w (((w.alloc (Obj.cells #[.bool b, .slice a n c, .slice a2 n2 c2] 28)).alloc (Obj.cells #[.bool b', .slice a' n' c', .slice a2' n2' c2'] 28)).alloc (Obj.cells #[.bool bx, .slice ax nx cx, .bool by1, .slice ay ny cy] 75)) := ((((Below.refl _ w).alloc (by simp) _).alloc (by simp) _).alloc (by simp; omega) _)
  generalize hgW : ((w.alloc (Obj.cells #[.bool b, .slice a n c, .slice a2 n2 c2] 28)).alloc (Obj.cells #[.bool b', .slice a' n' c', .slice a2' n2' c2'] 28)).alloc (Obj.cells #[.bool bx, .slice ax nx cx, .bool by1, .slice ay ny cy] 75) = W at *
  clear hgW
  simp only [World.size_alloc] at p1 p2
  have p0_ne_p1 : ¬ w.heap.size = w.heap.size + 1 := by omega
  have p0_ne_p2 : ¬ w.heap.size = w.heap.size + 1 + 1 := by omega
  have p1_ne_p0 : ¬ w.heap.size + 1 = w.heap.size := by omega
  have p1_ne_p2 : ¬ w.heap.size + 1 = w.heap.size + 1 + 1 := by omega
  have p2_ne_p0 : ¬ w.heap.size + 1 + 1 = w.heap.size := by omega
  have p2_ne_p1 : ¬ w.heap.size + 1 + 1 = w.heap.size + 1 := by omega
  replace p0_0 := p0.cell (i := 0) rfl
  replace p0_1 := p0.cell (i := 1) rfl
  replace p0_2 := p0.cell (i := 2) rfl
  replace p1_0 := p1.cell (i := 0) rfl
  replace p1_1 := p1.cell (i := 1) rfl
  replace p1_2 := p1.cell (i := 2) rfl
  replace p2_0 := p2.cell (i := 0) rfl
  replace p2_1 := p2.cell (i := 1) rfl
  replace p2_2 := p2.cell (i := 2) rfl
  replace p2_3 := p2.cell (i := 3) rfl
  have HP2 := Lib.hid p2
  have HP0 := Lib.hid p0
  have HP1 := Lib.hid p1
  have HEW := Lib.hid hEW
  clear p0 p0_0 p0_1 p0_2 p1 p1_0 p1_1 p1_2 p2 p2_0 p2_1 p2_2 p2_3 hEW
  go_wp2_with fail
  refine sums_r1 K (by omega) w W b a a2 n c n2 c2 x l xss HX HRX (by omega) b' a' a2' n' c' n2' c2' y l' yss HY HRY (by omega) HP0 HP1 HEW _ _ _ _ _ _ _ _ _ _ _ _ _ _ _ _ _ _ _ _ _ _ _ _ _ _ _ _ _ _ _ _ _ _ _ _ _ _ _ _ _ _ _ _ _ _ _ _ _ _ _ _ _ _ _ _ _ _ _ _ _ _ _ _ _ _ _ _ _ _ _ _ _ _ _ _ _ _ _ _ _ _ _ _ _ _ _ _ _ _ _ _ _ _ _ _ _ _ _ _ _ _ _ _ _ _ _ _ _ _ _ _ _ _ _ _ _ _ _ _ _ _ _ _ _ _ _ _ _ _ _ _ _ _ _ _ _ _ _ _ _ _ _ _ _ _ _ _ _ _ _ _ _ _ ?_
  intro q1 q2 a3 c3 a4 c4 a5 c5 a6 c6 v22 v23 v24 v25 w' hq12 HB1 HB2 HP HQ HE1
  obtain ⟨wc, rfl⟩ : ∃ z : World, z = w' := ⟨_, rfl⟩
  focus
    obtain ⟨w1, rfl⟩ : ∃ x : World, x = wc := ⟨_, rfl⟩
    have qa := HB1.out
    have qb := HB2.out
    have hE1 := HE1.out
    have p0 := HP0.out.ext hE1
    have p1 := HP1.out.ext hE1
    have p2 := HP2.out.ext hE1
    skip
    skip
    replace p0_0 := p0.cell (i := 0) rfl
    replace p0_1 := p0.cell (i := 1) rfl
    replace p0_2 := p0.cell (i := 2) rfl
    replace p1_0 := p1.cell (i := 0) rfl
    replace p1_1 := p1.cell (i := 1) rfl
    replace p1_2 := p1.cell (i := 2) rfl
    replace p2_0 := p2.cell (i := 0) rfl
    replace p2_1 := p2.cell (i := 1) rfl
    replace p2_2 := p2.cell (i := 2) rfl
    replace p2_3 := p2.cell (i := 3) rfl
    replace qa_0 := qa.cell (i := 0) rfl
    replace qa_1 := qa.cell (i := 1) rfl
    replace qa_2 := qa.cell (i := 2) rfl
    replace qb_0 := qb.cell (i := 0) rfl
    replace qb_1 := qb.cell (i := 1) rfl
    replace qb_2 := qb.cell (i := 2) rfl
    have HEa := Lib.hid (Ext.trans HEW.out hE1)
    clear hE1 HEW HE1 HB1 HB2 HP0 HP1 HP2
    have HZ := Lib.hid (Ext.refl w1)
    go_wp2_with fail
    (with_reducible refine (add_ans K (by omega) w1 b a3 a4 n c3 n2 c4 x (HP.out.ext HZ.out).mat b' a5 a6 n' c5 n2' c6 y (HQ.out.ext HZ.out).mat (by omega) (by omega) (Nat.le_trans HCX.out (by decide)) (Nat.le_trans HCY.out (by decide)) s1 HS1 qs HQS).mono ?_)
    rintro e w2 ⟨bu, au, nu, cu, au2, nu2, cu2, rfl, hE2, hme, hmo⟩
    replace p0 := p0.ext hE2; replace p0_0 := p0.cell (i := 0) rfl; replace p0_1 := p0.cell (i := 1) rfl; replace p0_2 := p0.cell (i := 2) rfl; replace p1 := p1.ext hE2; replace p1_0 := p1.cell (i := 0) rfl; replace p1_1 := p1.cell (i := 1) rfl; replace p1_2 := p1.cell (i := 2) rfl; replace p2 := p2.ext hE2; replace p2_0 := p2.cell (i := 0) rfl; replace p2_1 := p2.cell (i := 1) rfl; replace p2_2 := p2.cell (i := 2) rfl; replace p2_3 := p2.cell (i := 3) rfl; replace qa := qa.ext hE2; replace qa_0 := qa.cell (i := 0) rfl; replace qa_1 := qa.cell (i := 1) rfl; replace qa_2 := qa.cell (i := 2) rfl; replace qb := qb.ext hE2; replace qb_0 := qb.cell (i := 0) rfl; replace qb_1 := qb.cell (i := 1) rfl; replace qb_2 := qb.cell (i := 2) rfl
    go_upto_region 3 with (fail)
    have ub := Blk.new w2 28 #[.bool bu, .slice au nu cu, .slice au2 nu2 cu2]
    have hEW2 : Ext w2 (w2.alloc (Obj.cells #[.bool bu, .slice au nu cu, .slice au2 nu2 cu2] 28)) := ((Below.refl _ w2).alloc (by simp) _)
    generalize hgW2 : w2.alloc (Obj.cells #[.bool bu, .slice au nu cu, .slice au2 nu2 cu2] 28) = W2 at *
    clear hgW2
    replace ub_0 := ub.cell (i := 0) rfl
    replace ub_1 := ub.cell (i := 1) rfl
    replace ub_2 := ub.cell (i := 2) rfl
    replace p0 := p0.ext hEW2; replace p0_0 := p0.cell (i := 0) rfl; replace p0_1 := p0.cell (i := 1) rfl; replace p0_2 := p0.cell (i := 2) rfl; replace p1 := p1.ext hEW2; replace p1_0 := p1.cell (i := 0) rfl; replace p1_1 := p1.cell (i := 1) rfl; replace p1_2 := p1.cell (i := 2) rfl; replace p2 := p2.ext hEW2; replace p2_0 := p2.cell (i := 0) rfl; replace p2_1 := p2.cell (i := 1) rfl; replace p2_2 := p2.cell (i := 2) rfl; replace p2_3 := p2.cell (i := 3) rfl; replace qa := qa.ext hEW2; replace qa_0 := qa.cell (i := 0) rfl; replace qa_1 := qa.cell (i := 1) rfl; replace qa_2 := qa.cell (i := 2) rfl; replace qb := qb.ext hEW2; replace qb_0 := qb.cell (i := 0) rfl; replace qb_1 := qb.cell (i := 1) rfl; replace qb_2 := qb.cell (i := 2) rfl
    have HE_u := Lib.hid (Ext.trans hE2 hEW2)
    have HMu := Lib.hid hme
    have HOu : Hid (s1 = 0 → bu = false ∧ NatS 0 W2 au nu cu (limbs (nrmD qs)) ∧ Sl rInts 0 W2 au2 nu2 cu2 (rawM (nrmZ qs))) := Lib.hid (fun h0 => ⟨(hmo h0).1, (hmo h0).2.1.ext (Nat.zero_le _) hEW2, (hmo h0).2.2.ext (Nat.zero_le _) hEW2⟩)
    clear hE2 hEW2 hme hmo
    go_wp2_with fail
    (with_reducible refine (sub_ans K (by omega) W2 b a3 a4 n c3 n2 c4 x (HP.out.ext HE_u.out).mat b' a5 a6 n' c5 n2' c6 y (HQ.out.ext HE_u.out).mat (by omega) (by omega) (Nat.le_trans HCX.out (by decide)) (Nat.le_trans HCY.out (by decide)) s1 HS1 qd HQD).mono ?_)
    rintro e w3 ⟨bd, ad, nd, cd, ad2, nd2, cd2, rfl, hE2, hme, hmo⟩
    replace p0 := p0.ext hE2; replace p0_0 := p0.cell (i := 0) rfl; replace p0_1 := p0.cell (i := 1) rfl; replace p0_2 := p0.cell (i := 2) rfl; replace p1 := p1.ext hE2; replace p1_0 := p1.cell (i := 0) rfl; replace p1_1 := p1.cell (i := 1) rfl; replace p1_2 := p1.cell (i := 2) rfl; replace p2 := p2.ext hE2; replace p2_0 := p2.cell (i := 0) rfl; replace p2_1 := p2.cell (i := 1) rfl; replace p2_2 := p2.cell (i := 2) rfl; replace p2_3 := p2.cell (i := 3) rfl; replace qa := qa.ext hE2; replace qa_0 := qa.cell (i := 0) rfl; replace qa_1 := qa.cell (i := 1) rfl; replace qa_2 := qa.cell (i := 2) rfl; replace qb := qb.ext hE2; replace qb_0 := qb.cell (i := 0) rfl; replace qb_1 := qb.cell (i := 1) rfl; replace qb_2 := qb.cell (i := 2) rfl; replace ub := ub.ext hE2; replace ub_0 := ub.cell (i := 0) rfl; replace ub_1 := ub.cell (i := 1) rfl; replace ub_2 := ub.cell (i := 2) rfl
    go_upto_region 4 with (fail)
    have db := Blk.new w3 28 #[.bool bd, .slice ad nd cd, .slice ad2 nd2 cd2]
    have hEW3 : Ext w3 (w3.alloc (Obj.cells #[.bool bd, .slice ad nd cd, .slice ad2 nd2 cd2] 28)) := ((Below.refl _ w3).alloc (by simp) _)
    generalize hgW3 : w3.alloc (Obj.cells #[.bool bd, .slice ad nd cd, .slice ad2 nd2 cd2] 28) = W3 at *
    clear hgW3
    replace db_0 := db.cell (i := 0) rfl
    replace db_1 := db.cell (i := 1) rfl
    replace db_2 := db.cell (i := 2) rfl
    replace p0 := p0.ext hEW3; replace p0_0 := p0.cell (i := 0) rfl; replace p0_1 := p0.cell (i := 1) rfl; replace p0_2 := p0.cell (i := 2) rfl; replace p1 := p1.ext hEW3; replace p1_0 := p1.cell (i := 0) rfl; replace p1_1 := p1.cell (i := 1) rfl; replace p1_2 := p1.cell (i := 2) rfl; replace p2 := p2.ext hEW3; replace p2_0 := p2.cell (i := 0) rfl; replace p2_1 := p2.cell (i := 1) rfl; replace p2_2 := p2.cell (i := 2) rfl; replace p2_3 := p2.cell (i := 3) rfl; replace qa := qa.ext hEW3; replace qa_0 := qa.cell (i := 0) rfl; replace qa_1 := qa.cell (i := 1) rfl; replace qa_2 := qa.cell (i := 2) rfl; replace qb := qb.ext hEW3; replace qb_0 := qb.cell (i := 0) rfl; replace qb_1 := qb.cell (i := 1) rfl; replace qb_2 := qb.cell (i := 2) rfl; replace ub := ub.ext hEW3; replace ub_0 := ub.cell (i := 0) rfl; replace ub_1 := ub.cell (i := 1) rfl; replace ub_2 := ub.cell (i := 2) rfl
    have HE_d := Lib.hid (Ext.trans hE2 hEW3)
    have HMd := Lib.hid hme
    have HOd : Hid (s1 = 0 → bd = false ∧ NatS 0 W3 ad nd cd (limbs (nrmD qd)) ∧ Sl rInts 0 W3 ad2 nd2 cd2 (rawM (nrmZ qd))) := Lib.hid (fun h0 => ⟨(hmo h0).1, (hmo h0).2.1.ext (Nat.zero_le _) hEW3, (hmo h0).2.2.ext (Nat.zero_le _) hEW3⟩)
    clear hE2 hEW3 hme hmo
    have HEt := Lib.hid (Ext.trans HE_u.out HE_d.out)
    go_wp2_with fail
    (with_reducible refine (scale_ans K (by omega) W3 b a3 a4 n c3 n2 c4 x (HP.out.ext HEt.out).mat bx by1 ax ay nx cx ny cy q (rFr_ext HQR.out (Ext.trans HEa.out HEt.out)) (by omega) (Nat.le_trans HCX.out (by decide)) s2 HS2 qm HQM).mono ?_)
    rintro e w4 ⟨bm, am, nm, cm, am2, nm2, cm2, rfl, hE2, hme, hmo⟩
    replace p0 := p0.ext hE2; replace p0_0 := p0.cell (i := 0) rfl; replace p0_1 := p0.cell (i := 1) rfl; replace p0_2 := p0.cell (i := 2) rfl; replace p1 := p1.ext hE2; replace p1_0 := p1.cell (i := 0) rfl; replace p1_1 := p1.cell (i := 1) rfl; replace p1_2 := p1.cell (i := 2) rfl; replace p2 := p2.ext hE2; replace p2_0 := p2.cell (i := 0) rfl; replace p2_1 := p2.cell (i := 1) rfl; replace p2_2 := p2.cell (i := 2) rfl; replace p2_3 := p2.cell (i := 3) rfl; replace qa := qa.ext hE2; replace qa_0 := qa.cell (i := 0) rfl; replace qa_1 := qa.cell (i := 1) rfl; replace qa_2 := qa.cell (i := 2) rfl; replace qb := qb.ext hE2; replace qb_0 := qb.cell (i := 0) rfl; replace qb_1 := qb.cell (i := 1) rfl; replace qb_2 := qb.cell (i := 2) rfl; replace ub := ub.ext hE2; replace ub_0 := ub.cell (i := 0) rfl; replace ub_1 := ub.cell (i := 1) rfl; replace ub_2 := ub.cell (i := 2) rfl; replace db := db.ext hE2; replace db_0 := db.cell (i := 0) rfl; replace db_1 := db.cell (i := 1) rfl; replace db_2 := db.cell (i := 2) rfl
    go_upto_region 5 with (fail)
    have mb := Blk.new w4 28 #[.bool bm, .slice am nm cm, .slice am2 nm2 cm2]
    have hEW4 : Ext w4 (w4.alloc (Obj.cells #[.bool bm, .slice am nm cm, .slice am2 nm2 cm2] 28)) := ((Below.refl _ w4).alloc (by simp) _)
    generalize hgW4 : w4.alloc (Obj.cells #[.bool bm, .slice am nm cm, .slice am2 nm2 cm2] 28) = W4 at *
    clear hgW4
    replace mb_0 := mb.cell (i := 0) rfl
    replace mb_1 := mb.cell (i := 1) rfl
    replace mb_2 := mb.cell (i := 2) rfl
    replace p0 := p0.ext hEW4; replace p0_0 := p0.cell (i := 0) rfl; replace p0_1 := p0.cell (i := 1) rfl; replace p0_2 := p0.cell (i := 2) rfl; replace p1 := p1.ext hEW4; replace p1_0 := p1.cell (i := 0) rfl; replace p1_1 := p1.cell (i := 1) rfl; replace p1_2 := p1.cell (i := 2) rfl; replace p2 := p2.ext hEW4; replace p2_0 := p2.cell (i := 0) rfl; replace p2_1 := p2.cell (i := 1) rfl; replace p2_2 := p2.cell (i := 2) rfl; replace p2_3 := p2.cell (i := 3) rfl; replace qa := qa.ext hEW4; replace qa_0 := qa.cell (i := 0) rfl; replace qa_1 := qa.cell (i := 1) rfl; replace qa_2 := qa.cell (i := 2) rfl; replace qb := qb.ext hEW4; replace qb_0 := qb.cell (i := 0) rfl; replace qb_1 := qb.cell (i := 1) rfl; replace qb_2 := qb.cell (i := 2) rfl; replace ub := ub.ext hEW4; replace ub_0 := ub.cell (i := 0) rfl; replace ub_1 := ub.cell (i := 1) rfl; replace ub_2 := ub.cell (i := 2) rfl; replace db := db.ext hEW4; replace db_0 := db.cell (i := 0) rfl; replace db_1 := db.cell (i := 1) rfl; replace db_2 := db.cell (i := 2) rfl
    have HE_m := Lib.hid (Ext.trans hE2 hEW4)
    have HMm := Lib.hid hme
    have HOm : Hid (s2 = 0 → bm = false ∧ NatS 0 W4 am nm cm (limbs (nrmD qm)) ∧ Sl rInts 0 W4 am2 nm2 cm2 (rawM (nrmZ qm))) := Lib.hid (fun h0 => ⟨(hmo h0).1, (hmo h0).2.1.ext (Nat.zero_le _) hEW4, (hmo h0).2.2.ext (Nat.zero_le _) hEW4⟩)
    clear hE2 hEW4 hme hmo
    have HEx := Lib.hid (Ext.trans HEa.out (Ext.trans HEt.out HE_m.out))
    go_wp2_with fail
    (with_reducible refine (both_any K (by omega) W4 b a a2 n c n2 c2 x (HXM.out.ext HEx.out) b' a' a2' n' c' n2' c2' y (HYM.out.ext HEx.out) s0 HS0).mono ?_)
    rintro e w5 ⟨rfl, hE4⟩
    replace p0 := p0.ext hE4; replace p0_0 := p0.cell (i := 0) rfl; replace p0_1 := p0.cell (i := 1) rfl; replace p0_2 := p0.cell (i := 2) rfl; replace p1 := p1.ext hE4; replace p1_0 := p1.cell (i := 0) rfl; replace p1_1 := p1.cell (i := 1) rfl; replace p1_2 := p1.cell (i := 2) rfl; replace p2 := p2.ext hE4; replace p2_0 := p2.cell (i := 0) rfl; replace p2_1 := p2.cell (i := 1) rfl; replace p2_2 := p2.cell (i := 2) rfl; replace p2_3 := p2.cell (i := 3) rfl; replace qa := qa.ext hE4; replace qa_0 := qa.cell (i := 0) rfl; replace qa_1 := qa.cell (i := 1) rfl; replace qa_2 := qa.cell (i := 2) rfl; replace qb := qb.ext hE4; replace qb_0 := qb.cell (i := 0) rfl; replace qb_1 := qb.cell (i := 1) rfl; replace qb_2 := qb.cell (i := 2) rfl; replace ub := ub.ext hE4; replace ub_0 := ub.cell (i := 0) rfl; replace ub_1 := ub.cell (i := 1) rfl; replace ub_2 := ub.cell (i := 2) rfl; replace db := db.ext hE4; replace db_0 := db.cell (i := 0) rfl; replace db_1 := db.cell (i := 1) rfl; replace db_2 := db.cell (i := 2) rfl; replace mb := mb.ext hE4; replace mb_0 := mb.cell (i := 0) rfl; replace mb_1 := mb.cell (i := 1) rfl; replace mb_2 := mb.cell (i := 2) rfl
    go_wp2_with fail
    (with_reducible refine (r11Size_any K w5 b a a2 n c n2 c2 x.1 x.2 (HXM.out.ext (Ext.trans HEx.out hE4)) mx HMX).mono ?_)
    rintro e w6 ⟨rfl, hE5⟩
    replace p0 := p0.ext hE5; replace p0_0 := p0.cell (i := 0) rfl; replace p0_1 := p0.cell (i := 1) rfl; replace p0_2 := p0.cell (i := 2) rfl; replace p1 := p1.ext hE5; replace p1_0 := p1.cell (i := 0) rfl; replace p1_1 := p1.cell (i := 1) rfl; replace p1_2 := p1.cell (i := 2) rfl; replace p2 := p2.ext hE5; replace p2_0 := p2.cell (i := 0) rfl; replace p2_1 := p2.cell (i := 1) rfl; replace p2_2 := p2.cell (i := 2) rfl; replace p2_3 := p2.cell (i := 3) rfl; replace qa := qa.ext hE5; replace qa_0 := qa.cell (i := 0) rfl; replace qa_1 := qa.cell (i := 1) rfl; replace qa_2 := qa.cell (i := 2) rfl; replace qb := qb.ext hE5; replace qb_0 := qb.cell (i := 0) rfl; replace qb_1 := qb.cell (i := 1) rfl; replace qb_2 := qb.cell (i := 2) rfl; replace ub := ub.ext hE5; replace ub_0 := ub.cell (i := 0) rfl; replace ub_1 := ub.cell (i := 1) rfl; replace ub_2 := ub.cell (i := 2) rfl; replace db := db.ext hE5; replace db_0 := db.cell (i := 0) rfl; replace db_1 := db.cell (i := 1) rfl; replace db_2 := db.cell (i := 2) rfl; replace mb := mb.ext hE5; replace mb_0 := mb.cell (i := 0) rfl; replace mb_1 := mb.cell (i := 1) rfl; replace mb_2 := mb.cell (i := 2) rfl
    replace hE5 := Ext.trans hE4 hE5
    go_wp2_with fail
    (with_reducible refine (r11Size_any K w6 b' a' a2' n' c' n2' c2' y.1 y.2 (HYM.out.ext (Ext.trans HEx.out hE5)) my HMY).mono ?_)
    rintro e w7 ⟨rfl, hE7⟩
    replace p0 := p0.ext hE7; replace p0_0 := p0.cell (i := 0) rfl; replace p0_1 := p0.cell (i := 1) rfl; replace p0_2 := p0.cell (i := 2) rfl; replace p1 := p1.ext hE7; replace p1_0 := p1.cell (i := 0) rfl; replace p1_1 := p1.cell (i := 1) rfl; replace p1_2 := p1.cell (i := 2) rfl; replace p2 := p2.ext hE7; replace p2_0 := p2.cell (i := 0) rfl; replace p2_1 := p2.cell (i := 1) rfl; replace p2_2 := p2.cell (i := 2) rfl; replace p2_3 := p2.cell (i := 3) rfl; replace qa := qa.ext hE7; replace qa_0 := qa.cell (i := 0) rfl; replace qa_1 := qa.cell (i := 1) rfl; replace qa_2 := qa.cell (i := 2) rfl; replace qb := qb.ext hE7; replace qb_0 := qb.cell (i := 0) rfl; replace qb_1 := qb.cell (i := 1) rfl; replace qb_2 := qb.cell (i := 2) rfl; replace ub := ub.ext hE7; replace ub_0 := ub.cell (i := 0) rfl; replace ub_1 := ub.cell (i := 1) rfl; replace ub_2 := ub.cell (i := 2) rfl; replace db := db.ext hE7; replace db_0 := db.cell (i := 0) rfl; replace db_1 := db.cell (i := 1) rfl; replace db_2 := db.cell (i := 2) rfl; replace mb := mb.ext hE7; replace mb_0 := mb.cell (i := 0) rfl; replace mb_1 := mb.cell (i := 1) rfl; replace mb_2 := mb.cell (i := 2) rfl
    have HEd := Lib.hid (Ext.trans hE5 hE7)
    have HP0 := Lib.hid p0
    have HP1 := Lib.hid p1
    have HP2 := Lib.hid p2
    have HQA := Lib.hid qa
    have HQB := Lib.hid qb
    have HUB := Lib.hid ub
    have HDB := Lib.hid db
    have HMB := Lib.hid mb
    clear hE4 hE5 hE7 p0 p0_0 p0_1 p0_2 p1 p1_0 p1_1 p1_2 p2 p2_0 p2_1 p2_2 p2_3 qa qa_0 qa_1 qa_2 qb qb_0 qb_1 qb_2 ub ub_0 ub_1 ub_2 db db_0 db_1 db_2 mb mb_0 mb_1 mb_2
    go_upto_region 8 with (fail)
    go_cut [68] (fun s wx => ∃ ob : Bool, s = .bool ob ∧ Hid (ob = decide (s0 = 0 ∧ (¬ n2 = n2' ∨ ¬ mx = my))) ∧ wx = w7)
    case first =>
      by_cases g1 : s0 = 0
      · have hsb : (s0 == 0) = true := by simpa using g1
        by_cases g2 : n2 = n2'
        · have hgb : ((n2 : Int) != (n2' : Int)) = false := by rw [g2]; simp
          by_cases g3 : mx = my
          · have hgc : ((mx : Int) != (my : Int)) = false := by rw [g3]; simp
            have HF : Hid (false = decide (s0 = 0 ∧ (¬ n2 = n2' ∨ ¬ mx = my))) := Lib.hid (by simp [g2, g3])
            clear g1 g2 g3
            go_wp2_with fail
            go_meet
            exact ⟨false, rfl, HF, rfl⟩
          · have hgc : ((mx : Int) != (my : Int)) = true := by simp; omega
            have HF : Hid (true = decide (s0 = 0 ∧ (¬ n2 = n2' ∨ ¬ mx = my))) := Lib.hid (by simp [g1, g3])
            clear g1 g2 g3
            go_wp2_with fail
            go_meet
            exact ⟨true, rfl, HF, rfl⟩
        · have hgb : ((n2 : Int) != (n2' : Int)) = true := by simp; omega
          have HF : Hid (true = decide (s0 = 0 ∧ (¬ n2 = n2' ∨ ¬ mx = my))) := Lib.hid (by simp [g1, g2])
          clear g1 g2
          go_wp2_with fail
          go_meet
          exact ⟨true, rfl, HF, rfl⟩
      · have hsb : (s0 == 0) = false := by simpa using g1
        have HF : Hid (false = decide (s0 = 0 ∧ (¬ n2 = n2' ∨ ¬ mx = my))) := Lib.hid (by simp [g1])
        clear g1
        go_wp2_with fail
        go_meet
        exact ⟨false, rfl, HF, rfl⟩
    case rest =>
      obtain ⟨ob, rfl, HOB, hwc⟩ := hcut
      obtain rfl : w7 = wc := hwc.symm
      go_upto_if 68 with (fail)
      go_cut [15] (fun s wx => s = .int .i64 s1 ∧ wx = w7)
      case first =>
        cases ob with
        | true =>
          have HF : Hid (s1 = 2) := Lib.hid (by rw [HC1.out, if_pos (of_decide_eq_true HOB.out.symm)])
          go_wp2_with fail
          go_meet
          exact ⟨by rw [HF.out], rfl⟩
        | false =>
          have HF : Hid (s1 = s0) := Lib.hid (by rw [HC1.out, if_neg (of_decide_eq_false HOB.out.symm)])
          go_wp2_with fail
          go_meet
          exact ⟨by rw [HF.out], rfl⟩
      case rest =>
        obtain ⟨rfl, hwc⟩ := hcut
        obtain rfl : w7 = wc := hwc.symm
        have HEy := Lib.hid (Ext.trans HEx.out HEd.out)
        have p0 := HP0.out
        skip
        replace p0_0 := p0.cell (i := 0) rfl
        replace p0_1 := p0.cell (i := 1) rfl
        replace p0_2 := p0.cell (i := 2) rfl
        go_wp2_with fail
        (with_reducible refine (r11Check_any K (by omega) w7 b a a2 n c n2 c2 x.1 x.2 (HXM.out.ext HEy.out) s3 HS3).mono ?_)
        rintro e w8 ⟨rfl, hE8⟩
        have HE8 := Lib.hid hE8
        have HEz := Lib.hid (Ext.trans HEy.out hE8)
        clear hE8 p0 p0_0 p0_1 p0_2
        go_upto_region 11 with (fail)
        go_cut [77] (fun s wx => ∃ ob : Bool, s = .bool ob ∧ Hid (ob = decide (s3 = 0 ∧ q.2 = 0)) ∧ Hid (Ext w8 wx))
        case first =>
          by_cases g1 : s3 = 0
          · have hsb : (s3 == 0) = true := by simpa using g1
            by_cases g2 : q.2 = 0
            · have HF : Hid (true = decide (s3 = 0 ∧ q.2 = 0)) := Lib.hid (by simp [g1, g2])
              have HMAY : Hid (decide (q.2 ≠ 0) = false) := Lib.hid (by simp [g2])
              clear g1 g2
              have p2 := HP2.out.ext HE8.out
              skip
              replace p2_0 := p2.cell (i := 0) rfl
              replace p2_1 := p2.cell (i := 1) rfl
              replace p2_2 := p2.cell (i := 2) rfl
              replace p2_3 := p2.cell (i := 3) rfl
              obtain ⟨_, _, _, _, _, _, _, _, hcs, lx, ly, hm1, hm2, hv1, hv2, hnx, hny⟩ := rFr_ext HQR.out HEz.out
              cases hcs
              have HV2 := Lib.hid hv2
              clear hv1 hv2 hm1
              go_wp2_with fail
              (with_reducible refine (r5May_any w8 bx by1 ax ay nx cx ny cy ly q.2 hm2 HV2 false HMAY).mono ?_)
              rintro e w9 ⟨rfl, hE9⟩
              have HE9 := Lib.hid hE9
              clear hE9 p2 p2_0 p2_1 p2_2 p2_3 hm2
              go_wp2_with fail
              go_meet
              exact ⟨true, rfl, HF, HE9⟩
            · have HF : Hid (false = decide (s3 = 0 ∧ q.2 = 0)) := Lib.hid (by simp [g2])
              have HMAY : Hid (decide (q.2 ≠ 0) = true) := Lib.hid (by simp [g2])
              clear g1 g2
              have p2 := HP2.out.ext HE8.out
              skip
              replace p2_0 := p2.cell (i := 0) rfl
              replace p2_1 := p2.cell (i := 1) rfl
              replace p2_2 := p2.cell (i := 2) rfl
              replace p2_3 := p2.cell (i := 3) rfl
              obtain ⟨_, _, _, _, _, _, _, _, hcs, lx, ly, hm1, hm2, hv1, hv2, hnx, hny⟩ := rFr_ext HQR.out HEz.out
              cases hcs
              have HV2 := Lib.hid hv2
              clear hv1 hv2 hm1
              go_wp2_with fail
              (with_reducible refine (r5May_any w8 bx by1 ax ay nx cx ny cy ly q.2 hm2 HV2 true HMAY).mono ?_)
              rintro e w9 ⟨rfl, hE9⟩
              have HE9 := Lib.hid hE9
              clear hE9 p2 p2_0 p2_1 p2_2 p2_3 hm2
              go_wp2_with fail
              go_meet
              exact ⟨false, rfl, HF, HE9⟩
          · have HF : Hid (false = decide (s3 = 0 ∧ q.2 = 0)) := Lib.hid (by simp [g1])
            have hsb : (s3 == 0) = false := by simpa using g1
            clear g1
            go_wp2_with fail
            go_meet
            exact ⟨false, rfl, HF, Lib.hid (Ext.refl _)⟩
        case rest =>
          obtain ⟨ob2, rfl, HOB2, HE9⟩ := hcut
          obtain ⟨w9, rfl⟩ : ∃ z : World, z = wc := ⟨_, rfl⟩
          go_upto_if 77 with (fail)
          go_cut [20] (fun s wx => s = .int .i64 s2 ∧ wx = w9)
          case first =>
            cases ob2 with
            | true =>
              have HF : Hid (s2 = 6) := Lib.hid (by rw [HC2.out, if_pos (of_decide_eq_true HOB2.out.symm)])
              go_wp2_with fail
              go_meet
              exact ⟨by rw [HF.out], rfl⟩
            | false =>
              have HF : Hid (s2 = s3) := Lib.hid (by rw [HC2.out, if_neg (of_decide_eq_false HOB2.out.symm)])
              go_wp2_with fail
              go_meet
              exact ⟨by rw [HF.out], rfl⟩
          case rest =>
            obtain ⟨rfl, hwc⟩ := hcut
            obtain rfl : w9 = wc := hwc.symm
            have HEw := Lib.hid (Ext.trans HEz.out HE9.out)
            have HEr := Lib.hid (Ext.trans HEd.out (Ext.trans HE8.out HE9.out))
            have HXL := Lib.hid (HXM.out.ext HEw.out)
            have HYL := Lib.hid (HYM.out.ext HEw.out)
            have HQL := Lib.hid (rFr_ext HQR.out HEw.out)
            have HKu : Hid (s1 = 0 → bu = false ∧ NatS 0 w9 au nu cu (limbs (nrmD qs)) ∧ Sl rInts 0 w9 au2 nu2 cu2 (rawM (nrmZ qs))) := Lib.hid (fun h0 => ⟨(HOu.out h0).1, (HOu.out h0).2.1.ext (Nat.le_refl _) (Ext.trans HE_d.out (Ext.trans HE_m.out HEr.out)), (HOu.out h0).2.2.ext (Nat.le_refl _) (Ext.trans HE_d.out (Ext.trans HE_m.out HEr.out))⟩)
            have HKd : Hid (s1 = 0 → bd = false ∧ NatS 0 w9 ad nd cd (limbs (nrmD qd)) ∧ Sl rInts 0 w9 ad2 nd2 cd2 (rawM (nrmZ qd))) := Lib.hid (fun h0 => ⟨(HOd.out h0).1, (HOd.out h0).2.1.ext (Nat.le_refl _) (Ext.trans HE_m.out HEr.out), (HOd.out h0).2.2.ext (Nat.le_refl _) (Ext.trans HE_m.out HEr.out)⟩)
            have HKm : Hid (s2 = 0 → bm = false ∧ NatS 0 w9 am nm cm (limbs (nrmD qm)) ∧ Sl rInts 0 w9 am2 nm2 cm2 (rawM (nrmZ qm))) := Lib.hid (fun h0 => ⟨(HOm.out h0).1, (HOm.out h0).2.1.ext (Nat.le_refl _) (HEr.out), (HOm.out h0).2.2.ext (Nat.le_refl _) (HEr.out)⟩)
            clear HOu HOd HOm HOB HOB2 HC1 HC2
            have HPa := Lib.hid (HP0.out.ext (Ext.trans HE8.out HE9.out))
            have HPb := Lib.hid (HP1.out.ext (Ext.trans HE8.out HE9.out))
            have HPc := Lib.hid (HP2.out.ext (Ext.trans HE8.out HE9.out))
            have HUa := Lib.hid (HUB.out.ext (Ext.trans HE8.out HE9.out))
            have HDa := Lib.hid (HDB.out.ext (Ext.trans HE8.out HE9.out))
            have HMa := Lib.hid (HMB.out.ext (Ext.trans HE8.out HE9.out))
            go_wp2_with fail
            refine sums_r13 K hK hK1 w w9 b a a2 n c n2 c2 x HXL b' a' a2' n' c' n2' c2' y HYL bx by1 ax ay nx cx ny cy q HQL hn2 HCX s1 s2 HS1 HS2 qs qd qm HQS HQD HQM HPa HPb HPc w2.heap.size w3.heap.size w4.heap.size bu au au2 nu cu nu2 cu2 bd ad ad2 nd cd nd2 cd2 bm am am2 nm cm nm2 cm2 HUa HDa HMa HKu HKd HKm HMu HMd HMm _ _ _ _ _ _ _ _ _ _ _ _ _ _ _ _ _ _ _ _ _ _ _ _ _ _ _ _ _ _ _ _ _ _ _ _ _ _ _ _ _ _ _ _ _ _ _ _ _ _ _ _ _ _ _ _ _ _ _ _ _ _ _ _ _ _ _ _ _ _ _ _ _ _ _ _ _ _ _ _ _ _ _ _ _ _ _ _ _ _ _ _ _ _ _ _ _ _ _ _ _ _ _ _ _ _ _ _ _ _ _ _ _ _ _ _ _ _ _ _ _ _ _ _ _ _ _ _ _ _ _ _ _ _ _ _ _ _ _ _ _ _ _ _ _ _ ?_
            intro v78 v79 v80 v81 v82 v83 v84 v85 v86 v87 v88 v89 v90 v91 v92 v93 v94 v95 v96 v97 v98 v99 v100 v101 v102 v103 v104 v105 v106 v107 v108 v109 v110 v111 v112 v113 v114 v115 v116 v117 v118 v119 v120 v121 v122 v123 v124 v125 v126 v127 v128 v129 v130 v131 v132 v133 v134 v135 v136 v137 v138 v139 v140 v141 w' HEf
            clear HPa HPb HPc HUa HDa HMa
            obtain ⟨wc, rfl⟩ : ∃ z : World, z = w' := ⟨_, rfl⟩
            focus
              obtain ⟨w10, rfl⟩ : ∃ z : World, z = wc := ⟨_, rfl⟩
              have hEz := Ext.trans HE8.out (Ext.trans HE9.out HEf.out)
              have p0 := HP0.out.ext hEz
              have p1 := HP1.out.ext hEz
              have qa := HQA.out.ext hEz
              have qb := HQB.out.ext hEz
              skip
              skip
              replace p0_0 := p0.cell (i := 0) rfl
              replace p0_1 := p0.cell (i := 1) rfl
              replace p0_2 := p0.cell (i := 2) rfl
              replace p1_0 := p1.cell (i := 0) rfl
              replace p1_1 := p1.cell (i := 1) rfl
              replace p1_2 := p1.cell (i := 2) rfl
              replace qa_0 := qa.cell (i := 0) rfl
              replace qa_1 := qa.cell (i := 1) rfl
              replace qa_2 := qa.cell (i := 2) rfl
              replace qb_0 := qb.cell (i := 0) rfl
              replace qb_1 := qb.cell (i := 1) rfl
              replace qb_2 := qb.cell (i := 2) rfl
              have HEq := Lib.hid (Ext.trans HEt.out (Ext.trans HE_m.out (Ext.trans HEr.out HEf.out)))
              have HEp := Lib.hid (Ext.trans HEa.out HEq.out)
              clear HKu HKd HKm HMu HMd HMm hEz
              go_wp2_with fail
              (with_reducible refine (same_yes w10 b a3 a a4 a2 n c3 n c n2 c4 n2 c2 l xss (HP.out.ext HEq.out).nat (HX.out.ext HEp.out).nat (HP.out.ext HEq.out).rows (HX.out.ext HEp.out).rows).mono ?_)
              rintro e w11 ⟨rfl, hE11⟩
              replace p0 := p0.ext hE11; replace p0_0 := p0.cell (i := 0) rfl; replace p0_1 := p0.cell (i := 1) rfl; replace p0_2 := p0.cell (i := 2) rfl; replace p1 := p1.ext hE11; replace p1_0 := p1.cell (i := 0) rfl; replace p1_1 := p1.cell (i := 1) rfl; replace p1_2 := p1.cell (i := 2) rfl; replace qa := qa.ext hE11; replace qa_0 := qa.cell (i := 0) rfl; replace qa_1 := qa.cell (i := 1) rfl; replace qa_2 := qa.cell (i := 2) rfl; replace qb := qb.ext hE11; replace qb_0 := qb.cell (i := 0) rfl; replace qb_1 := qb.cell (i := 1) rfl; replace qb_2 := qb.cell (i := 2) rfl
              have HE11 := Lib.hid hE11
              clear hE11
              go_wp2_with fail
              (with_reducible refine (same_yes w11 b' a5 a' a6 a2' n' c5 n' c' n2' c6 n2' c2' l' yss (HQ.out.ext (Ext.trans HEq.out HE11.out)).nat (HY.out.ext (Ext.trans HEp.out HE11.out)).nat (HQ.out.ext (Ext.trans HEq.out HE11.out)).rows (HY.out.ext (Ext.trans HEp.out HE11.out)).rows).mono ?_)
              rintro e w12 ⟨rfl, hE12⟩
              have HE12 := Lib.hid (Ext.trans HE11.out hE12)
              clear hE12 p0 p1 qa qb p0_0 p0_1 p0_2 p1_0 p1_1 p1_2 qa_0 qa_1 qa_2 qb_0 qb_1 qb_2
              go_wp2_with fail
              (with_reducible refine (lives_yes w12).mono ?_)
              rintro e w13 ⟨rfl, hE13⟩
              have HE13 := Lib.hid (Ext.trans HEp.out (Ext.trans HE12.out hE13))
              clear hE13
              go_wp2_with fail
              go_ret
              exact ⟨rfl, HE13.out⟩
end Go.Proofs.YtbhenelehhiakaaGreat
