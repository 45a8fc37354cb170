/-
  The law QmatParts: region 13.
-/
import Derived.Test.YtbhenelehhiakaaPart38
set_option linter.unusedVariables false
set_option linter.unusedSimpArgs false
namespace Go.Proofs.Ytbhenelehhiakaa
open Go.RowKit

set_option maxRecDepth 1000000 in
set_option maxHeartbeats 40000000 in
theorem parts_r13 (K : Nat) (hK : K ≤ 1048576) (w9 wc : World) (HEc : Hid (Ext w9 wc)) (i c : Nat) (b5 o5 : Nat) (sx : Bool) (ax : Option Addr) (nx cx : Nat) (ax2 : Option Addr) (nx2 cx2 : Nat) (x : Int × List (List Int)) (sy : Bool) (ay : Option Addr) (ny cy : Nat) (ay2 : Option Addr) (ny2 cy2 : Nat) (y : Int × List (List Int)) (h0i : 0 < i) (h1i : (1 : Int) < (i : Int))
    (HCELLS : Hid (∀ W' : World, Ext w9 W' → W'.cell? ⟨b5, o5, none⟩ = some (.bool sx) ∧ W'.cell? ⟨b5, o5 + 1, none⟩ = some (.slice ax nx cx) ∧ W'.cell? ⟨b5, o5 + 2, none⟩ = some (.slice ax2 nx2 cx2) ∧ W'.cell? ⟨b5, o5 + 3, none⟩ = some (.bool sy) ∧ W'.cell? ⟨b5, o5 + 3 + 1, none⟩ = some (.slice ay ny cy) ∧ W'.cell? ⟨b5, o5 + 3 + 2, none⟩ = some (.slice ay2 ny2 cy2))) (HX : Hid (MatS K w9 sx ax nx cx ax2 nx2 cx2 x.1 x.2)) (HY : Hid (MatS K w9 sy ay ny cy ay2 ny2 cy2 y.1 y.2)) (hxb : nx2 ≤ 1048576) (hyb : ny2 ≤ 1048576) (HXC : Hid (colsOf x.2 ≤ 524288)) (HYC : Hid (colsOf y.2 ≤ 524288)) (s2 : Int) (HS2 : Hid (stackE x y = s2)) (qS : List (List Rat)) (HQS : Hid (stackQ x y = qS))
    (x1 x2 x3 x4 x5 x6 x7 x8 x9 x10 x11 x12 x13 x14 x15 x16 x17 x18 x19 x20 x21 x22 x23 x24 x25 x26 x27 x28 x29 x30 x31 x32 x33 x34 x35 x36 x37 x38 x39 x40 x41 x42 x43 x44 x45 x46 x47 x48 x49 x50 x51 x52 x53 x54 x55 x56 x57 x58 x59 x60 x61 x62 x63 x64 x65 x66 x67 x68 x69 x70 x71 x72 x73 x74 x75 x76 x77 x78 x79 x80 x81 x82 x83 x84 x85 x86 x87 x88 x89 x90 x91 x92 x93 x94 x95 x96 x97 x98 x99 x100 x101 x102 x103 x104 x105 x106 x107 x108 x109 x110 x111 x112 x113 x114 x115 x116 x117 x118 x119 x120 x121 x122 x123 x124 x125 x126 x127 x128 x129 x130 x131 x132 x133 x134 x135 x136 x137 x138 x139 x140 x141 x142 x143 x144 x145 x146 x147 x148 x149 x150 x151 x152 x153 x154 x155 x156 x157 x158 x159 x160 x161 x162 x163 x164 x165 x166 x167 x168 x169 x170 x171 x172 x173 x174 x175 x176 x177 x178 x179 x180 x181 x182 x183 x184 x185 x186 x187 x188 x189 x190 x191 x192 x193 x194 x195 x196 x197 x198 x199 x200 x201 x202 x203 x204 x205 x206 x207 x208 x209 x210 x211 x212 x213 x214 x215 x216 x217 x218 : Value)
    (Q : Exit → Act → World → Prop) (hQ : ∀ (v59 v60 v61 v62 v63 v64 v65 v66 v67 v68 : Value) (qb : Nat) (ba : Bool) (aa : Option Addr) (na ca : Nat) (aa2 : Option Addr) (na2 ca2 : Nat) (w' : World), Hid (Blk w' qb 30 #[.bool ba, .slice aa na ca, .slice aa2 na2 ca2]) → Hid (s2 ≠ 0 → ba = false ∧ aa = none ∧ na = 0 ∧ ca = 0 ∧ aa2 = none ∧ na2 = 0 ∧ ca2 = 0) → Hid (s2 = 0 → ba = false ∧ NatS 0 w' aa na ca (limbs (nrmD qS)) ∧ Sl rInts 0 w' aa2 na2 ca2 (rawM (nrmZ qS))) → Ext wc w' → Q .normal { tmps := #[.slice (some ⟨b5, o5, none⟩) i c, x1, x2, x3, x4, x5, x6, x7, x8, x9, .pointer (some ⟨qb, 0, none⟩), .int .i64 s2, x12, x13, x14, x15, x16, x17, x18, x19, x20, x21, x22, x23, x24, x25, x26, x27, x28, x29, x30, x31, x32, x33, x34, x35, x36, x37, x38, x39, x40, x41, x42, x43, x44, x45, x46, x47, x48, x49, x50, x51, x52, x53, x54, x55, x56, x57, x58, v59, v60, v61, v62, v63, v64, v65, v66, v67, v68, x69, x70, x71, x72, x73, x74, x75, x76, x77, x78, x79, x80, x81, x82, x83, x84, x85, x86, x87, x88, x89, x90, x91, x92, x93, x94, x95, x96, x97, x98, x99, x100, x101, x102, x103, x104, x105, x106, x107, x108, x109, x110, x111, x112, x113, x114, x115, x116, x117, x118, x119, x120, x121, x122, x123, x124, x125, x126, x127, x128, x129, x130, x131, x132, x133, x134, x135, x136, x137, x138, x139, x140, x141, x142, x143, x144, x145, x146, x147, x148, x149, x150, x151, x152, x153, x154, x155, x156, x157, x158, x159, x160, x161, x162, x163, x164, x165, x166, x167, x168, x169, x170, x171, x172, x173, x174, x175, x176, x177, x178, x179, x180, x181, x182, x183, x184, x185, x186, x187, x188, x189, x190, x191, x192, x193, x194, x195, x196, x197, x198, x199, x200, x201, x202, x203, x204, x205, x206, x207, x208, x209, x210, x211, x212, x213, x214, x215, x216, x217, x218], defers := [] } w') :
    Code.wp Try.prog (partsReg 13) Q { tmps := #[.slice (some ⟨b5, o5, none⟩) i c, x1, x2, x3, x4, x5, x6, x7, x8, x9, x10, x11, x12, x13, x14, x15, x16, x17, x18, x19, x20, x21, x22, x23, x24, x25, x26, x27, x28, x29, x30, x31, x32, x33, x34, x35, x36, x37, x38, x39, x40, x41, x42, x43, x44, x45, x46, x47, x48, x49, x50, x51, x52, x53, x54, x55, x56, x57, x58, x59, x60, x61, x62, x63, x64, x65, x66, x67, x68, x69, x70, x71, x72, x73, x74, x75, x76, x77, x78, x79, x80, x81, x82, x83, x84, x85, x86, x87, x88, x89, x90, x91, x92, x93, x94, x95, x96, x97, x98, x99, x100, x101, x102, x103, x104, x105, x106, x107, x108, x109, x110, x111, x112, x113, x114, x115, x116, x117, x118, x119, x120, x121, x122, x123, x124, x125, x126, x127, x128, x129, x130, x131, x132, x133, x134, x135, x136, x137, x138, x139, x140, x141, x142, x143, x144, x145, x146, x147, x148, x149, x150, x151, x152, x153, x154, x155, x156, x157, x158, x159, x160, x161, x162, x163, x164, x165, x166, x167, x168, x169, x170, x171, x172, x173, x174, x175, x176, x177, x178, x179, x180, x181, x182, x183, x184, x185, x186, x187, x188, x189, x190, x191, x192, x193, x194, x195, x196, x197, x198, x199, x200, x201, x202, x203, x204, x205, x206, x207, x208, x209, x210, x211, x212, x213, x214, x215, x216, x217, x218], defers := [] } wc := by
  conv => arg 2; whnf
  have hE3 : Ext wc wc.drew := (Below.refl _ _).drew
  have hE0 := Ext.trans HEc.out hE3
  refine wp_region_noPanic ?_
  refine wp_region_held_drew (S := (fun w' => w'.cell? ⟨b5, o5, none⟩ = some (.bool sx) ∧ w'.cell? ⟨b5, o5 + 1, none⟩ = some (.slice ax nx cx) ∧ w'.cell? ⟨b5, o5 + 2, none⟩ = some (.slice ax2 nx2 cx2) ∧ w'.cell? ⟨b5, o5 + 3, none⟩ = some (.bool sy) ∧ w'.cell? ⟨b5, o5 + 3 + 1, none⟩ = some (.slice ay ny cy) ∧ w'.cell? ⟨b5, o5 + 3 + 2, none⟩ = some (.slice ay2 ny2 cy2))) (by kernel_rfl) (HCELLS.out _ hE0) (fun hHeld => ?_)
  refine takeD 0 60 (v := ?_) rfl rfl (by kernel_rfl) (by kernel_rfl) (by kernel_rfl) (fun _ _ _ h => h) (Or.inl ⟨by kernel_rfl, ?hy⟩) hHeld ?_
  case hy => (intro w hSw; (try dsimp only at hSw); go_simp; try with_reducible rfl)
  try simp only [List.setIfInBounds_toArray, List.set_cons_zero, List.set_cons_succ]
  refine takeD 1 61 (v := ?_) rfl rfl (by kernel_rfl) (by kernel_rfl) (by kernel_rfl) (fun _ _ _ h => h) (Or.inl ⟨by kernel_rfl, ?hy⟩) hHeld ?_
  case hy => (intro w hSw; (try dsimp only at hSw); go_simp; try with_reducible rfl)
  try simp only [List.setIfInBounds_toArray, List.set_cons_zero, List.set_cons_succ]
  refine takeD 2 62 (v := ?_) rfl rfl (by kernel_rfl) (by kernel_rfl) (by kernel_rfl) (fun _ _ _ h => h) (Or.inl ⟨by kernel_rfl, ?hy⟩) hHeld ?_
  case hy => (intro w hSw; (try dsimp only at hSw); go_simp; try with_reducible rfl)
  try simp only [List.setIfInBounds_toArray, List.set_cons_zero, List.set_cons_succ]
  refine takeD 3 63 (v := ?_) rfl rfl (by kernel_rfl) (by kernel_rfl) (by kernel_rfl) (fun _ _ _ h => h) (Or.inl ⟨by kernel_rfl, ?hy⟩) hHeld ?_
  case hy => (intro w hSw; (try dsimp only at hSw); go_simp; try with_reducible rfl)
  try simp only [List.setIfInBounds_toArray, List.set_cons_zero, List.set_cons_succ]
  refine takeD 4 64 (v := ?_) rfl rfl (by kernel_rfl) (by kernel_rfl) (by kernel_rfl) (fun _ _ _ h => h) (Or.inl ⟨by kernel_rfl, ?hy⟩) hHeld ?_
  case hy => (intro w hSw; (try dsimp only at hSw); go_simp; try with_reducible rfl)
  try simp only [List.setIfInBounds_toArray, List.set_cons_zero, List.set_cons_succ]
  refine takeD 5 65 (v := ?_) rfl rfl (by kernel_rfl) (by kernel_rfl) (by kernel_rfl) (fun _ _ _ h => h) (Or.inl ⟨by kernel_rfl, ?hy⟩) hHeld ?_
  case hy => (intro w hSw; (try dsimp only at hSw); go_simp; try with_reducible rfl)
  try simp only [List.setIfInBounds_toArray, List.set_cons_zero, List.set_cons_succ]
  refine wpAnyH_ready (rs := [6, 10]) (by kernel_rfl) (by simp) ?_
  refine AllReadyH.cons rfl (fun Kc hKc => ?_) (AllReadyH.cons rfl (fun Kc hKc => ?_) AllReadyH.nil)
  · refine Eq.mpr (if_pos (by kernel_rfl)) ?_
    go_simp
    refine (stack_ans K (by omega) wc.drew sx ax ax2 nx cx nx2 cx2 x (HX.out.ext hE0) sy ay ay2 ny cy ny2 cy2 y (HY.out.ext hE0) (by omega) (by omega) (Nat.le_trans HXC.out (by decide)) (Nat.le_trans HYC.out (by decide)) s2 HS2 qS HQS).mono ?_
    rintro e w6 ⟨ba, aa, na, ca, aa2, na2, ca2, rfl, hE1, hSe, hSo⟩
    replace hE0 := Ext.trans hE0 hE1
    replace hE3 := Ext.trans hE3 hE1
    go_wp2_with fail
    refine hKc.out _ _ (HCELLS.out _ hE0) (fun hHeld => ?_)
    clear hKc Kc
    try simp only [Act.put, List.setIfInBounds_toArray, List.set_cons_zero, List.set_cons_succ]
    have hs6 := hE3.size
    refine takeD 7 59 (v := ?_) rfl rfl (by kernel_rfl) (by kernel_rfl) (by kernel_rfl) (fun _ _ _ h => h) (Or.inl ⟨by kernel_rfl, ?hy⟩) hHeld ?_
    case hy => (intro w hSw; (try dsimp only at hSw); go_simp; try with_reducible rfl)
    try simp only [List.setIfInBounds_toArray, List.set_cons_zero, List.set_cons_succ]
    refine takeD 8 67 (v := ?_) rfl rfl (by kernel_rfl) (by kernel_rfl) (by kernel_rfl) (fun _ _ _ h => h) (Or.inl ⟨by kernel_rfl, ?hy⟩) hHeld ?_
    case hy => (intro w hSw; (try dsimp only at hSw); go_simp; try with_reducible rfl)
    try simp only [List.setIfInBounds_toArray, List.set_cons_zero, List.set_cons_succ]
    refine takeD 9 68 (v := ?_) rfl rfl (by kernel_rfl) (by kernel_rfl) (by kernel_rfl) (fun _ _ _ h => h) (Or.inl ⟨by kernel_rfl, ?hy⟩) hHeld ?_
    case hy => (intro w hSw; (try dsimp only at hSw); go_simp; try with_reducible rfl)
    try simp only [List.setIfInBounds_toArray, List.set_cons_zero, List.set_cons_succ]
    refine stepD 10 rfl (by kernel_rfl) (fun Kc hKc => ?_)
    refine Eq.mpr (if_pos (by kernel_rfl)) ?_
    go_simp
    have hE7 : Ext w6 (w6.alloc (Obj.cells #[.bool false, .slice none 0 0, .slice none 0 0] 30)) := (Below.refl _ _).alloc (Nat.le_refl _) _
    have st := Blk.new w6 30 #[.bool false, .slice none 0 0, .slice none 0 0]
    replace hE0 := Ext.trans hE0 hE7
    replace hE3 := Ext.trans hE3 hE7
    refine hKc.out _ _ (HCELLS.out _ hE0) (fun hHeld => ?_)
    clear hKc Kc
    try simp only [Act.put, List.setIfInBounds_toArray, List.set_cons_zero, List.set_cons_succ]
    generalize (w6.alloc (Obj.cells #[.bool false, .slice none 0 0, .slice none 0 0] 30)) = w7 at *
    obtain ⟨qb, hqb⟩ : ∃ q, w6.heap.size = q := ⟨_, rfl⟩
    rw [hqb] at st hs6 ⊢
    have hq6 : w6.heap.size ≤ qb := Nat.le_of_eq hqb
    clear hE1 hqb
    skip
    replace st_0 := st.cell (i := 0) rfl
    replace st_1 := st.cell (i := 1) rfl
    replace st_2 := st.cell (i := 2) rfl
    replace st_f0 := st.free 0
    replace st_f1 := st.free 1
    replace st_f2 := st.free 2
    replace st_lt := st.lt
    refine stepD 11 rfl (by kernel_rfl) (fun Kc hKc => ?_)
    refine Eq.mpr (if_pos (by kernel_rfl)) ?_
    go_simp
    replace st := st.set 0 (.bool ba)
    replace st := st.set 1 (.slice aa na ca)
    replace st := st.set 2 (.slice aa2 na2 ca2)
    have hKW8 : ∀ bB_ : Nat, qb < bB_ → Kept bB_ w7 ((((w7).setCell ⟨qb, 0, none⟩ (.bool ba)).setCell ⟨qb, 1, none⟩ (.slice aa na ca)).setCell ⟨qb, 2, none⟩ (.slice aa2 na2 ca2)) := fun bB_ h0 => (Kept.trans (kept_set _ _ _ h0) (Kept.trans (kept_set _ _ _ h0) (kept_set _ _ _ h0)))
    have hzW8 : w7.heap.size ≤ ((((w7).setCell ⟨qb, 0, none⟩ (.bool ba)).setCell ⟨qb, 1, none⟩ (.slice aa na ca)).setCell ⟨qb, 2, none⟩ (.slice aa2 na2 ca2)).heap.size := by simp only [World.setCell, Array.size_modify]; exact Nat.le_refl _
    have hSW8 : ∀ (nB_ : Nat) (uB_ : World), nB_ ≤ qb → Below nB_ uB_ w7 → Below nB_ uB_ ((((w7).setCell ⟨qb, 0, none⟩ (.bool ba)).setCell ⟨qb, 1, none⟩ (.slice aa na ca)).setCell ⟨qb, 2, none⟩ (.slice aa2 na2 ca2)) := fun nB_ uB_ h0 hb => (Below.setCell (Below.setCell (Below.setCell hb (p := ⟨qb, 0, none⟩) h0 (.bool ba)) (p := ⟨qb, 1, none⟩) h0 (.slice aa na ca)) (p := ⟨qb, 2, none⟩) h0 (.slice aa2 na2 ca2))
    replace st : Blk ((((w7).setCell ⟨qb, 0, none⟩ (.bool ba)).setCell ⟨qb, 1, none⟩ (.slice aa na ca)).setCell ⟨qb, 2, none⟩ (.slice aa2 na2 ca2)) (qb) 30 #[.bool ba, .slice aa na ca, .slice aa2 na2 ca2] := st
    generalize hgW8 : (((w7).setCell ⟨qb, 0, none⟩ (.bool ba)).setCell ⟨qb, 1, none⟩ (.slice aa na ca)).setCell ⟨qb, 2, none⟩ (.slice aa2 na2 ca2) = W8 at *
    clear hgW8
    replace st_0 := st.cell (i := 0) rfl
    replace st_1 := st.cell (i := 1) rfl
    replace st_2 := st.cell (i := 2) rfl
    replace st_f0 := st.free 0
    replace st_f1 := st.free 1
    replace st_f2 := st.free 2
    replace st_lt := st.lt
    have hE68 : Ext w6 W8 := hSW8 _ _ hq6 hE7
    have hE8 : Ext wc W8 := hSW8 _ _ hs6 hE3
    have hE0 : Ext w9 W8 := Ext.trans HEc.out hE8
    refine hKc.out _ _ (HCELLS.out _ hE0) (fun hHeld => ?_)
    clear hKc Kc
    try simp only [Act.put, List.setIfInBounds_toArray, List.set_cons_zero, List.set_cons_succ]
    refine takeD 12 11 (v := ?_) rfl rfl (by kernel_rfl) (by kernel_rfl) (by kernel_rfl) (fun _ _ _ h => h) (Or.inl ⟨by kernel_rfl, ?hy⟩) hHeld ?_
    case hy => (intro w hSw; (try dsimp only at hSw); go_simp; try with_reducible rfl)
    try simp only [List.setIfInBounds_toArray, List.set_cons_zero, List.set_cons_succ]
    refine wpAnyH_done (by kernel_rfl) ?_ _
    refine NoPanic.normal ?_
    exact hQ _ _ _ _ _ _ _ _ _ _ qb ba aa na ca aa2 na2 ca2 _ (Lib.hid st) (Lib.hid hSe) (Lib.hid (fun h0 => ⟨(hSo h0).1, (hSo h0).2.1.ext (Nat.zero_le _) hE68, (hSo h0).2.2.ext (Nat.zero_le _) hE68⟩)) hE8
  · refine Eq.mpr (if_pos (by kernel_rfl)) ?_
    go_simp
    have hE7 : Ext wc (wc.alloc (Obj.cells #[.bool false, .slice none 0 0, .slice none 0 0] 30)).drew := ((Below.refl _ _).alloc (Nat.le_refl _) _).drew
    have st : Blk (wc.alloc (Obj.cells #[.bool false, .slice none 0 0, .slice none 0 0] 30)).drew wc.heap.size 30 #[.bool false, .slice none 0 0, .slice none 0 0] := Blk.new wc 30 #[.bool false, .slice none 0 0, .slice none 0 0]
    replace hE3 := hE7
    replace hE0 := Ext.trans HEc.out hE7
    refine hKc.out _ _ (HCELLS.out _ hE0) (fun hHeld => ?_)
    clear hKc Kc
    try simp only [Act.put, List.setIfInBounds_toArray, List.set_cons_zero, List.set_cons_succ]
    have hsA : wc.heap.size < (wc.alloc (Obj.cells #[.bool false, .slice none 0 0, .slice none 0 0] 30)).drew.heap.size := st.lt
    generalize (wc.alloc (Obj.cells #[.bool false, .slice none 0 0, .slice none 0 0] 30)).drew = wA at *
    obtain ⟨qb, hqb⟩ : ∃ q, wc.heap.size = q := ⟨_, rfl⟩
    rw [hqb] at st hsA ⊢
    have hq6 : wc.heap.size ≤ qb := Nat.le_of_eq hqb
    clear hqb hE7
    refine stepD 6 rfl (by kernel_rfl) (fun Kc hKc => ?_)
    refine Eq.mpr (if_pos (by kernel_rfl)) ?_
    go_simp
    refine (stack_ans K (by omega) wA sx ax ax2 nx cx nx2 cx2 x (HX.out.ext hE0) sy ay ay2 ny cy ny2 cy2 y (HY.out.ext hE0) (by omega) (by omega) (Nat.le_trans HXC.out (by decide)) (Nat.le_trans HYC.out (by decide)) s2 HS2 qS HQS).mono ?_
    rintro e w7 ⟨ba, aa, na, ca, aa2, na2, ca2, rfl, hE1, hSe, hSo⟩
    replace hE0 := Ext.trans hE0 hE1
    replace hE3 := Ext.trans hE3 hE1
    replace st := st.ext hE1
    go_wp2_with fail
    refine hKc.out _ _ (HCELLS.out _ hE0) (fun hHeld => ?_)
    clear hKc Kc
    try simp only [Act.put, List.setIfInBounds_toArray, List.set_cons_zero, List.set_cons_succ]
    refine takeD 7 59 (v := ?_) rfl rfl (by kernel_rfl) (by kernel_rfl) (by kernel_rfl) (fun _ _ _ h => h) (Or.inl ⟨by kernel_rfl, ?hy⟩) hHeld ?_
    case hy => (intro w hSw; (try dsimp only at hSw); go_simp; try with_reducible rfl)
    try simp only [List.setIfInBounds_toArray, List.set_cons_zero, List.set_cons_succ]
    refine takeD 8 67 (v := ?_) rfl rfl (by kernel_rfl) (by kernel_rfl) (by kernel_rfl) (fun _ _ _ h => h) (Or.inl ⟨by kernel_rfl, ?hy⟩) hHeld ?_
    case hy => (intro w hSw; (try dsimp only at hSw); go_simp; try with_reducible rfl)
    try simp only [List.setIfInBounds_toArray, List.set_cons_zero, List.set_cons_succ]
    refine takeD 9 68 (v := ?_) rfl rfl (by kernel_rfl) (by kernel_rfl) (by kernel_rfl) (fun _ _ _ h => h) (Or.inl ⟨by kernel_rfl, ?hy⟩) hHeld ?_
    case hy => (intro w hSw; (try dsimp only at hSw); go_simp; try with_reducible rfl)
    try simp only [List.setIfInBounds_toArray, List.set_cons_zero, List.set_cons_succ]
    skip
    replace st_0 := st.cell (i := 0) rfl
    replace st_1 := st.cell (i := 1) rfl
    replace st_2 := st.cell (i := 2) rfl
    replace st_f0 := st.free 0
    replace st_f1 := st.free 1
    replace st_f2 := st.free 2
    replace st_lt := st.lt
    refine stepD 11 rfl (by kernel_rfl) (fun Kc hKc => ?_)
    refine Eq.mpr (if_pos (by kernel_rfl)) ?_
    go_simp
    replace st := st.set 0 (.bool ba)
    replace st := st.set 1 (.slice aa na ca)
    replace st := st.set 2 (.slice aa2 na2 ca2)
    have hKW8 : ∀ bB_ : Nat, qb < bB_ → Kept bB_ w7 ((((w7).setCell ⟨qb, 0, none⟩ (.bool ba)).setCell ⟨qb, 1, none⟩ (.slice aa na ca)).setCell ⟨qb, 2, none⟩ (.slice aa2 na2 ca2)) := fun bB_ h0 => (Kept.trans (kept_set _ _ _ h0) (Kept.trans (kept_set _ _ _ h0) (kept_set _ _ _ h0)))
    have hzW8 : w7.heap.size ≤ ((((w7).setCell ⟨qb, 0, none⟩ (.bool ba)).setCell ⟨qb, 1, none⟩ (.slice aa na ca)).setCell ⟨qb, 2, none⟩ (.slice aa2 na2 ca2)).heap.size := by simp only [World.setCell, Array.size_modify]; exact Nat.le_refl _
    have hSW8 : ∀ (nB_ : Nat) (uB_ : World), nB_ ≤ qb → Below nB_ uB_ w7 → Below nB_ uB_ ((((w7).setCell ⟨qb, 0, none⟩ (.bool ba)).setCell ⟨qb, 1, none⟩ (.slice aa na ca)).setCell ⟨qb, 2, none⟩ (.slice aa2 na2 ca2)) := fun nB_ uB_ h0 hb => (Below.setCell (Below.setCell (Below.setCell hb (p := ⟨qb, 0, none⟩) h0 (.bool ba)) (p := ⟨qb, 1, none⟩) h0 (.slice aa na ca)) (p := ⟨qb, 2, none⟩) h0 (.slice aa2 na2 ca2))
    replace st : Blk ((((w7).setCell ⟨qb, 0, none⟩ (.bool ba)).setCell ⟨qb, 1, none⟩ (.slice aa na ca)).setCell ⟨qb, 2, none⟩ (.slice aa2 na2 ca2)) (qb) 30 #[.bool ba, .slice aa na ca, .slice aa2 na2 ca2] := st
    generalize hgW8 : (((w7).setCell ⟨qb, 0, none⟩ (.bool ba)).setCell ⟨qb, 1, none⟩ (.slice aa na ca)).setCell ⟨qb, 2, none⟩ (.slice aa2 na2 ca2) = W8 at *
    clear hgW8
    replace st_0 := st.cell (i := 0) rfl
    replace st_1 := st.cell (i := 1) rfl
    replace st_2 := st.cell (i := 2) rfl
    replace st_f0 := st.free 0
    replace st_f1 := st.free 1
    replace st_f2 := st.free 2
    replace st_lt := st.lt
    have hE8 : Ext wc W8 := hSW8 _ _ hq6 hE3
    have hK8 := hKW8 _ hsA
    have hE0 : Ext w9 W8 := Ext.trans HEc.out hE8
    refine hKc.out _ _ (HCELLS.out _ hE0) (fun hHeld => ?_)
    clear hKc Kc
    try simp only [Act.put, List.setIfInBounds_toArray, List.set_cons_zero, List.set_cons_succ]
    refine takeD 12 11 (v := ?_) rfl rfl (by kernel_rfl) (by kernel_rfl) (by kernel_rfl) (fun _ _ _ h => h) (Or.inl ⟨by kernel_rfl, ?hy⟩) hHeld ?_
    case hy => (intro w hSw; (try dsimp only at hSw); go_simp; try with_reducible rfl)
    try simp only [List.setIfInBounds_toArray, List.set_cons_zero, List.set_cons_succ]
    refine wpAnyH_done (by kernel_rfl) ?_ _
    refine NoPanic.normal ?_
    exact hQ _ _ _ _ _ _ _ _ _ _ qb ba aa na ca aa2 na2 ca2 _ (Lib.hid st) (Lib.hid hSe) (Lib.hid (fun h0 => ⟨(hSo h0).1, (hSo h0).2.1.mono (Nat.zero_le _) hK8, (hSo h0).2.2.mono (Nat.zero_le _) hK8⟩)) hE8

end Go.Proofs.Ytbhenelehhiakaa
