/-
  The law QmatParts: region 25.
-/
import Derived.Test.YtbhenelehhiakaaPart38
set_option linter.unusedVariables false
set_option linter.unusedSimpArgs false
namespace Go.Proofs.Ytbhenelehhiakaa
open Go.RowKit

set_option maxRecDepth 1000000 in
set_option maxHeartbeats 40000000 in
theorem parts_r25 (K : Nat) (hK : K ≤ 1048576) (w9 wc : World) (HEc : Hid (Ext w9 wc)) (i c : Nat) (b5 o5 : Nat) (sx : Bool) (ax : Option Addr) (nx cx : Nat) (ax2 : Option Addr) (nx2 cx2 : Nat) (x : Int × List (List Int)) (sy : Bool) (ay : Option Addr) (ny cy : Nat) (ay2 : Option Addr) (ny2 cy2 : Nat) (y : Int × List (List Int)) (h0i : 0 < i) (h1i : (1 : Int) < (i : Int))
    (HCELLS : Hid (∀ W' : World, Ext w9 W' → W'.cell? ⟨b5, o5, none⟩ = some (.bool sx) ∧ W'.cell? ⟨b5, o5 + 1, none⟩ = some (.slice ax nx cx) ∧ W'.cell? ⟨b5, o5 + 2, none⟩ = some (.slice ax2 nx2 cx2) ∧ W'.cell? ⟨b5, o5 + 3, none⟩ = some (.bool sy) ∧ W'.cell? ⟨b5, o5 + 3 + 1, none⟩ = some (.slice ay ny cy) ∧ W'.cell? ⟨b5, o5 + 3 + 2, none⟩ = some (.slice ay2 ny2 cy2))) (HX : Hid (MatS K w9 sx ax nx cx ax2 nx2 cx2 x.1 x.2)) (HY : Hid (MatS K w9 sy ay ny cy ay2 ny2 cy2 y.1 y.2)) (hxb : nx2 ≤ 1048576) (hyb : ny2 ≤ 1048576) (HXC : Hid (colsOf x.2 ≤ 524288)) (HYC : Hid (colsOf y.2 ≤ 524288)) (r r2 k k2 : Int) (s4 : Int) (HS4 : Hid (cutE x r r2 k k2 = s4)) (qC : List (List Rat)) (HQC : Hid (cutR x r r2 k k2 = qC)) (bpl : Nat) (HPL : Hid (Blk wc bpl 42 #[.int .i64 r, .int .i64 r2, .int .i64 k, .int .i64 k2])) (qb : Nat) (ba : Bool) (aa : Option Addr) (na ca : Nat) (aa2 : Option Addr) (na2 ca2 : Nat) (HST : Hid (Blk wc qb 30 #[.bool ba, .slice aa na ca, .slice aa2 na2 ca2])) (HSE2 : Hid (s4 ≠ 0 → ba = false ∧ aa = none ∧ na = 0 ∧ ca = 0 ∧ aa2 = none ∧ na2 = 0 ∧ ca2 = 0)) (HSO2 : Hid (s4 = 0 → ba = false ∧ NatS 0 wc aa na ca (limbs (nrmD qC)) ∧ Sl rInts 0 wc aa2 na2 ca2 (rawM (nrmZ qC))))
    (x1 x2 x4 x5 x6 x7 x8 x9 x10 x11 x13 x14 x15 x16 x19 x20 x21 x22 x23 x24 x25 x26 x27 x28 x29 x30 x31 x32 x33 x34 x35 x36 x37 x38 x39 x40 x41 x42 x43 x44 x45 x46 x47 x48 x49 x50 x51 x52 x53 x54 x55 x56 x57 x58 x59 x60 x61 x62 x63 x64 x65 x66 x67 x68 x69 x70 x71 x72 x73 x74 x75 x76 x77 x78 x79 x80 x81 x82 x83 x84 x85 x86 x87 x88 x89 x90 x91 x92 x93 x94 x95 x96 x97 x98 x99 x100 x101 x102 x103 x104 x105 x106 x107 x108 x109 x110 x111 x112 x113 x114 x115 x116 x117 x118 x119 x120 x121 x122 x123 x124 x125 x126 x127 x128 x129 x130 x131 x132 x133 x134 x135 x136 x137 x138 x139 x140 x141 x142 x143 x144 x145 x146 x147 x148 x149 x150 x151 x152 x153 x154 x155 x156 x157 x158 x159 x160 x161 x162 x163 x164 x165 x166 x167 x168 x169 x170 x171 x172 x173 x174 x175 x176 x177 x178 x179 x180 x181 x182 x183 x184 x185 x186 x187 x188 x189 x190 x191 x192 x193 x194 x195 x196 x197 x198 x199 x200 x201 x202 x203 x204 x205 x206 x207 x208 x209 x210 x211 x212 x213 x214 x215 x216 x217 x218 : Value)
    (Q : Exit → Act → World → Prop) (hQ : ∀ (v187 v188 v189 v190 v191 v192 v193 v194 v195 v196 v197 v198 v199 v200 v201 v202 v203 v204 v205 v206 v207 v208 v209 v210 v211 v212 v213 v214 v215 v216 v217 v218 : Value) (w' : World), Ext wc w' → Q .normal { tmps := #[.slice (some ⟨b5, o5, none⟩) i c, x1, x2, .pointer (some ⟨bpl, 0, none⟩), .bool true, x5, x6, x7, x8, x9, x10, x11, .int .i64 s4, x13, x14, x15, x16, .pointer (some ⟨qb, 0, none⟩), .int .i64 s4, x19, x20, x21, x22, x23, x24, x25, x26, x27, x28, x29, x30, x31, x32, x33, x34, x35, x36, x37, x38, x39, x40, x41, x42, x43, x44, x45, x46, x47, x48, x49, x50, x51, x52, x53, x54, x55, x56, x57, x58, x59, x60, x61, x62, x63, x64, x65, x66, x67, x68, x69, x70, x71, x72, x73, x74, x75, x76, x77, x78, x79, x80, x81, x82, x83, x84, x85, x86, x87, x88, x89, x90, x91, x92, x93, x94, x95, x96, x97, x98, x99, x100, x101, x102, x103, x104, x105, x106, x107, x108, x109, x110, x111, x112, x113, x114, x115, x116, x117, x118, x119, x120, x121, x122, x123, x124, x125, x126, x127, x128, x129, x130, x131, x132, x133, x134, x135, x136, x137, x138, x139, x140, x141, x142, x143, x144, x145, x146, x147, x148, x149, x150, x151, x152, x153, x154, x155, x156, x157, x158, x159, x160, x161, x162, x163, x164, x165, x166, x167, x168, x169, x170, x171, x172, x173, x174, x175, x176, x177, x178, x179, x180, x181, x182, x183, x184, x185, x186, v187, v188, v189, v190, v191, v192, v193, v194, v195, v196, v197, v198, v199, v200, v201, v202, v203, v204, v205, v206, v207, v208, v209, v210, v211, v212, v213, v214, v215, v216, v217, v218], defers := [] } w') :
    Code.wp Try.prog (partsReg 25) Q { tmps := #[.slice (some ⟨b5, o5, none⟩) i c, x1, x2, .pointer (some ⟨bpl, 0, none⟩), x4, x5, x6, x7, x8, x9, x10, x11, .int .i64 s4, x13, x14, x15, x16, .pointer (some ⟨qb, 0, none⟩), .int .i64 s4, x19, x20, x21, x22, x23, x24, x25, x26, x27, x28, x29, x30, x31, x32, x33, x34, x35, x36, x37, x38, x39, x40, x41, x42, x43, x44, x45, x46, x47, x48, x49, x50, x51, x52, x53, x54, x55, x56, x57, x58, x59, x60, x61, x62, x63, x64, x65, x66, x67, x68, x69, x70, x71, x72, x73, x74, x75, x76, x77, x78, x79, x80, x81, x82, x83, x84, x85, x86, x87, x88, x89, x90, x91, x92, x93, x94, x95, x96, x97, x98, x99, x100, x101, x102, x103, x104, x105, x106, x107, x108, x109, x110, x111, x112, x113, x114, x115, x116, x117, x118, x119, x120, x121, x122, x123, x124, x125, x126, x127, x128, x129, x130, x131, x132, x133, x134, x135, x136, x137, x138, x139, x140, x141, x142, x143, x144, x145, x146, x147, x148, x149, x150, x151, x152, x153, x154, x155, x156, x157, x158, x159, x160, x161, x162, x163, x164, x165, x166, x167, x168, x169, x170, x171, x172, x173, x174, x175, x176, x177, x178, x179, x180, x181, x182, x183, x184, x185, x186, x187, x188, x189, x190, x191, x192, x193, x194, x195, x196, x197, x198, x199, x200, x201, x202, x203, x204, x205, x206, x207, x208, x209, x210, x211, x212, x213, x214, x215, x216, x217, x218], defers := [] } wc := by
  conv => arg 2; whnf
  have hE3 : Ext wc wc.drew := (Below.refl _ _).drew
  have hE0 := Ext.trans HEc.out hE3
  have st := HST.out.ext hE3
  have pl := HPL.out.ext hE3
  skip
  replace pl_0 := pl.cell (i := 0) rfl
  replace pl_1 := pl.cell (i := 1) rfl
  replace pl_2 := pl.cell (i := 2) rfl
  replace pl_3 := pl.cell (i := 3) rfl
  by_cases h0 : s4 = 0
  · subst h0
    obtain ⟨rfl, hb1, hb2⟩ := HSO2.out rfl
    skip
    replace st_0 := st.cell (i := 0) rfl
    replace st_1 := st.cell (i := 1) rfl
    replace st_2 := st.cell (i := 2) rfl
    replace st_f0 := st.free 0
    replace st_f1 := st.free 1
    replace st_f2 := st.free 2
    replace st_lt := st.lt
    have hb1 := hb1.ext (Nat.le_refl _) hE3
    have hb2 := hb2.ext (Nat.le_refl _) hE3
    refine wp_region_noPanic ?_
    refine wp_region_held_drew (S := (fun w' => w'.cell? ⟨qb, 0, none⟩ = some (.bool false) ∧ w'.cell? ⟨qb, 1, none⟩ = some (.slice aa na ca) ∧ w'.cell? ⟨qb, 2, none⟩ = some (.slice aa2 na2 ca2) ∧ w'.cell? ⟨bpl, 0, none⟩ = some (.int .i64 r) ∧ w'.cell? ⟨bpl, 1, none⟩ = some (.int .i64 r2) ∧ w'.cell? ⟨bpl, 2, none⟩ = some (.int .i64 k) ∧ w'.cell? ⟨bpl, 3, none⟩ = some (.int .i64 k2) ∧ w'.cell? ⟨b5, o5, none⟩ = some (.bool sx) ∧ w'.cell? ⟨b5, o5 + 1, none⟩ = some (.slice ax nx cx) ∧ w'.cell? ⟨b5, o5 + 2, none⟩ = some (.slice ax2 nx2 cx2) ∧ w'.cell? ⟨b5, o5 + 3, none⟩ = some (.bool sy) ∧ w'.cell? ⟨b5, o5 + 3 + 1, none⟩ = some (.slice ay ny cy) ∧ w'.cell? ⟨b5, o5 + 3 + 2, none⟩ = some (.slice ay2 ny2 cy2))) (by kernel_rfl) ⟨st_0, st_1, st_2, pl_0, pl_1, pl_2, pl_3, HCELLS.out _ hE0⟩ (fun hHeld => ?_)
    refine takeD 0 187 (v := ?_) rfl rfl (by kernel_rfl) (by kernel_rfl) (by kernel_rfl) (fun _ _ _ h => h) (Or.inl ⟨by kernel_rfl, ?hy⟩) hHeld ?_
    case hy => (intro w hSw; (try dsimp only at hSw); go_simp; try with_reducible rfl)
    try simp only [List.setIfInBounds_toArray, List.set_cons_zero, List.set_cons_succ]
    refine takeD 1 188 (v := ?_) rfl rfl (by kernel_rfl) (by kernel_rfl) (by kernel_rfl) (fun _ _ _ h => h) (Or.inl ⟨by kernel_rfl, ?hy⟩) hHeld ?_
    case hy => (intro w hSw; (try dsimp only at hSw); go_simp; try with_reducible rfl)
    try simp only [List.setIfInBounds_toArray, List.set_cons_zero, List.set_cons_succ]
    refine takeD 2 189 (v := ?_) rfl rfl (by kernel_rfl) (by kernel_rfl) (by kernel_rfl) (fun _ _ _ h => h) (Or.inl ⟨by kernel_rfl, ?hy⟩) hHeld ?_
    case hy => (intro w hSw; (try dsimp only at hSw); go_simp; try with_reducible rfl)
    try simp only [List.setIfInBounds_toArray, List.set_cons_zero, List.set_cons_succ]
    refine takeD 3 190 (v := undef) rfl rfl (by kernel_rfl) (by kernel_rfl) (by kernel_rfl) (fun _ _ _ h => h) (Or.inr ⟨by kernel_rfl, rfl⟩) hHeld ?_
    try simp only [List.setIfInBounds_toArray, List.set_cons_zero, List.set_cons_succ]
    refine takeD 4 191 (v := undef) rfl rfl (by kernel_rfl) (by kernel_rfl) (by kernel_rfl) (fun _ _ _ h => h) (Or.inr ⟨by kernel_rfl, rfl⟩) hHeld ?_
    try simp only [List.setIfInBounds_toArray, List.set_cons_zero, List.set_cons_succ]
    refine takeD 5 192 (v := undef) rfl rfl (by kernel_rfl) (by kernel_rfl) (by kernel_rfl) (fun _ _ _ h => h) (Or.inr ⟨by kernel_rfl, rfl⟩) hHeld ?_
    try simp only [List.setIfInBounds_toArray, List.set_cons_zero, List.set_cons_succ]
    refine skipD 6 193 rfl rfl (by kernel_rfl) (by kernel_rfl) hHeld ?_
    try simp only [List.setIfInBounds_toArray, List.set_cons_zero, List.set_cons_succ]
    refine takeD 7 194 (v := ?_) rfl rfl (by kernel_rfl) (by kernel_rfl) (by kernel_rfl) (fun _ _ _ h => h) (Or.inl ⟨by kernel_rfl, ?hy⟩) hHeld ?_
    case hy => (intro w hSw; (try dsimp only at hSw); go_simp; try with_reducible rfl)
    try simp only [List.setIfInBounds_toArray, List.set_cons_zero, List.set_cons_succ]
    refine takeD 8 195 (v := ?_) rfl rfl (by kernel_rfl) (by kernel_rfl) (by kernel_rfl) (fun _ _ _ h => h) (Or.inl ⟨by kernel_rfl, ?hy⟩) hHeld ?_
    case hy => (intro w hSw; (try dsimp only at hSw); go_simp; try with_reducible rfl)
    try simp only [List.setIfInBounds_toArray, List.set_cons_zero, List.set_cons_succ]
    refine takeD 9 196 (v := ?_) rfl rfl (by kernel_rfl) (by kernel_rfl) (by kernel_rfl) (fun _ _ _ h => h) (Or.inl ⟨by kernel_rfl, ?hy⟩) hHeld ?_
    case hy => (intro w hSw; (try dsimp only at hSw); go_simp; try with_reducible rfl)
    try simp only [List.setIfInBounds_toArray, List.set_cons_zero, List.set_cons_succ]
    refine takeD 10 197 (v := ?_) rfl rfl (by kernel_rfl) (by kernel_rfl) (by kernel_rfl) (fun _ _ _ h => h) (Or.inl ⟨by kernel_rfl, ?hy⟩) hHeld ?_
    case hy => (intro w hSw; (try dsimp only at hSw); go_simp; try with_reducible rfl)
    try simp only [List.setIfInBounds_toArray, List.set_cons_zero, List.set_cons_succ]
    refine takeD 11 198 (v := ?_) rfl rfl (by kernel_rfl) (by kernel_rfl) (by kernel_rfl) (fun _ _ _ h => h) (Or.inl ⟨by kernel_rfl, ?hy⟩) hHeld ?_
    case hy => (intro w hSw; (try dsimp only at hSw); go_simp; try with_reducible rfl)
    try simp only [List.setIfInBounds_toArray, List.set_cons_zero, List.set_cons_succ]
    refine takeD 12 199 (v := ?_) rfl rfl (by kernel_rfl) (by kernel_rfl) (by kernel_rfl) (fun _ _ _ h => h) (Or.inl ⟨by kernel_rfl, ?hy⟩) hHeld ?_
    case hy => (intro w hSw; (try dsimp only at hSw); go_simp; try with_reducible rfl)
    try simp only [List.setIfInBounds_toArray, List.set_cons_zero, List.set_cons_succ]
    refine takeD 13 200 (v := ?_) rfl rfl (by kernel_rfl) (by kernel_rfl) (by kernel_rfl) (fun _ _ _ h => h) (Or.inl ⟨by kernel_rfl, ?hy⟩) hHeld ?_
    case hy => (intro w hSw; (try dsimp only at hSw); go_simp; try with_reducible rfl)
    try simp only [List.setIfInBounds_toArray, List.set_cons_zero, List.set_cons_succ]
    refine takeD 14 201 (v := ?_) rfl rfl (by kernel_rfl) (by kernel_rfl) (by kernel_rfl) (fun _ _ _ h => h) (Or.inl ⟨by kernel_rfl, ?hy⟩) hHeld ?_
    case hy => (intro w hSw; (try dsimp only at hSw); go_simp; try with_reducible rfl)
    try simp only [List.setIfInBounds_toArray, List.set_cons_zero, List.set_cons_succ]
    refine takeD 15 202 (v := ?_) rfl rfl (by kernel_rfl) (by kernel_rfl) (by kernel_rfl) (fun _ _ _ h => h) (Or.inl ⟨by kernel_rfl, ?hy⟩) hHeld ?_
    case hy => (intro w hSw; (try dsimp only at hSw); go_simp; try with_reducible rfl)
    try simp only [List.setIfInBounds_toArray, List.set_cons_zero, List.set_cons_succ]
    refine takeD 16 203 (v := ?_) rfl rfl (by kernel_rfl) (by kernel_rfl) (by kernel_rfl) (fun _ _ _ h => h) (Or.inl ⟨by kernel_rfl, ?hy⟩) hHeld ?_
    case hy => (intro w hSw; (try dsimp only at hSw); go_simp; try with_reducible rfl)
    try simp only [List.setIfInBounds_toArray, List.set_cons_zero, List.set_cons_succ]
    refine takeD 17 204 (v := ?_) rfl rfl (by kernel_rfl) (by kernel_rfl) (by kernel_rfl) (fun _ _ _ h => h) (Or.inl ⟨by kernel_rfl, ?hy⟩) hHeld ?_
    case hy => (intro w hSw; (try dsimp only at hSw); go_simp; try with_reducible rfl)
    try simp only [List.setIfInBounds_toArray, List.set_cons_zero, List.set_cons_succ]
    refine takeD 18 205 (v := ?_) rfl rfl (by kernel_rfl) (by kernel_rfl) (by kernel_rfl) (fun _ _ _ h => h) (Or.inl ⟨by kernel_rfl, ?hy⟩) hHeld ?_
    case hy => (intro w hSw; (try dsimp only at hSw); go_simp; try with_reducible rfl)
    try simp only [List.setIfInBounds_toArray, List.set_cons_zero, List.set_cons_succ]
    refine takeD 19 206 (v := ?_) rfl rfl (by kernel_rfl) (by kernel_rfl) (by kernel_rfl) (fun _ _ _ h => h) (Or.inl ⟨by kernel_rfl, ?hy⟩) hHeld ?_
    case hy => (intro w hSw; (try dsimp only at hSw); go_simp; try with_reducible rfl)
    try simp only [List.setIfInBounds_toArray, List.set_cons_zero, List.set_cons_succ]
    refine takeD 20 207 (v := ?_) rfl rfl (by kernel_rfl) (by kernel_rfl) (by kernel_rfl) (fun _ _ _ h => h) (Or.inl ⟨by kernel_rfl, ?hy⟩) hHeld ?_
    case hy => (intro w hSw; (try dsimp only at hSw); go_simp; try with_reducible rfl)
    try simp only [List.setIfInBounds_toArray, List.set_cons_zero, List.set_cons_succ]
    refine takeD 21 208 (v := ?_) rfl rfl (by kernel_rfl) (by kernel_rfl) (by kernel_rfl) (fun _ _ _ h => h) (Or.inl ⟨by kernel_rfl, ?hy⟩) hHeld ?_
    case hy => (intro w hSw; (try dsimp only at hSw); go_simp; try with_reducible rfl)
    try simp only [List.setIfInBounds_toArray, List.set_cons_zero, List.set_cons_succ]
    refine takeD 22 209 (v := ?_) rfl rfl (by kernel_rfl) (by kernel_rfl) (by kernel_rfl) (fun _ _ _ h => h) (Or.inl ⟨by kernel_rfl, ?hy⟩) hHeld ?_
    case hy => (intro w hSw; (try dsimp only at hSw); go_simp; try with_reducible rfl)
    try simp only [List.setIfInBounds_toArray, List.set_cons_zero, List.set_cons_succ]
    refine takeD 23 210 (v := ?_) rfl rfl (by kernel_rfl) (by kernel_rfl) (by kernel_rfl) (fun _ _ _ h => h) (Or.inl ⟨by kernel_rfl, ?hy⟩) hHeld ?_
    case hy => (intro w hSw; (try dsimp only at hSw); go_simp; try with_reducible rfl)
    try simp only [List.setIfInBounds_toArray, List.set_cons_zero, List.set_cons_succ]
    refine takeD 24 211 (v := ?_) rfl rfl (by kernel_rfl) (by kernel_rfl) (by kernel_rfl) (fun _ _ _ h => h) (Or.inl ⟨by kernel_rfl, ?hy⟩) hHeld ?_
    case hy => (intro w hSw; (try dsimp only at hSw); go_simp; try with_reducible rfl)
    try simp only [List.setIfInBounds_toArray, List.set_cons_zero, List.set_cons_succ]
    refine stepD 25 rfl (by kernel_rfl) (fun Kc hKc => ?_)
    refine Eq.mpr (if_pos (by kernel_rfl)) ?_
    go_simp
    refine (r11Cut_ref K (by omega) wc.drew sx ax ax2 nx cx nx2 cx2 x (HX.out.ext hE0) (by omega) (Nat.le_trans HXC.out (by decide)) r r2 k k2 HS4 qC HQC).mono ?_; rintro e w6 ⟨a6, n6, c6, a7, n7, c7, rfl, hi1, hi2, hE1⟩; replace hE0 := Ext.trans hE0 hE1; replace hE3 := Ext.trans hE3 hE1; replace pl := pl.ext hE1; replace pl_0 := pl.cell (i := 0) rfl; replace pl_1 := pl.cell (i := 1) rfl; replace pl_2 := pl.cell (i := 2) rfl; replace pl_3 := pl.cell (i := 3) rfl; replace pl_f0 := pl.free 0; replace pl_f1 := pl.free 1; replace pl_f2 := pl.free 2; replace pl_f3 := pl.free 3; replace pl_lt := pl.lt; replace st := st.ext hE1; replace st_0 := st.cell (i := 0) rfl; replace st_1 := st.cell (i := 1) rfl; replace st_2 := st.cell (i := 2) rfl; replace st_f0 := st.free 0; replace st_f1 := st.free 1; replace st_f2 := st.free 2; replace st_lt := st.lt; replace hb1 := hb1.ext (Nat.le_refl _) hE1; replace hb2 := hb2.ext (Nat.le_refl _) hE1
    go_wp2_with fail
    refine hKc.out _ _ ⟨st_0, st_1, st_2, pl_0, pl_1, pl_2, pl_3, HCELLS.out _ hE0⟩ (fun hHeld => ?_)
    clear hKc Kc
    try simp only [Act.put, List.setIfInBounds_toArray, List.set_cons_zero, List.set_cons_succ]
    refine stepD 26 rfl (by kernel_rfl) (fun Kc hKc => ?_)
    refine Eq.mpr (if_pos (by kernel_rfl)) ?_
    go_simp
    refine (right_yes _ _ _ _ _ _ _ _ _ _ _ _ _ _ _ _ hb1 hi1 hb2 hi2).mono ?_; rintro e w6 ⟨rfl, hE1⟩; clear hb1 hi1 hb2 hi2; replace hE0 := Ext.trans hE0 hE1; replace hE3 := Ext.trans hE3 hE1; replace pl := pl.ext hE1; replace pl_0 := pl.cell (i := 0) rfl; replace pl_1 := pl.cell (i := 1) rfl; replace pl_2 := pl.cell (i := 2) rfl; replace pl_3 := pl.cell (i := 3) rfl; replace pl_f0 := pl.free 0; replace pl_f1 := pl.free 1; replace pl_f2 := pl.free 2; replace pl_f3 := pl.free 3; replace pl_lt := pl.lt; replace st := st.ext hE1; replace st_0 := st.cell (i := 0) rfl; replace st_1 := st.cell (i := 1) rfl; replace st_2 := st.cell (i := 2) rfl; replace st_f0 := st.free 0; replace st_f1 := st.free 1; replace st_f2 := st.free 2; replace st_lt := st.lt
    go_wp2_with fail
    refine hKc.out _ _ ⟨st_0, st_1, st_2, pl_0, pl_1, pl_2, pl_3, HCELLS.out _ hE0⟩ (fun hHeld => ?_)
    clear hKc Kc
    try simp only [Act.put, List.setIfInBounds_toArray, List.set_cons_zero, List.set_cons_succ]
    refine takeD 27 214 (v := ?_) rfl rfl (by kernel_rfl) (by kernel_rfl) (by kernel_rfl) (fun _ _ _ h => h) (Or.inl ⟨by kernel_rfl, ?hy⟩) hHeld ?_
    case hy => (intro w hSw; (try dsimp only at hSw); go_simp; try with_reducible rfl)
    try simp only [List.setIfInBounds_toArray, List.set_cons_zero, List.set_cons_succ]
    refine takeD 28 215 (v := ?_) rfl rfl (by kernel_rfl) (by kernel_rfl) (by kernel_rfl) (fun _ _ _ h => h) (Or.inl ⟨by kernel_rfl, ?hy⟩) hHeld ?_
    case hy => (intro w hSw; (try dsimp only at hSw); go_simp; try with_reducible rfl)
    try simp only [List.setIfInBounds_toArray, List.set_cons_zero, List.set_cons_succ]
    refine takeD 29 216 (v := ?_) rfl rfl (by kernel_rfl) (by kernel_rfl) (by kernel_rfl) (fun _ _ _ h => h) (Or.inl ⟨by kernel_rfl, ?hy⟩) hHeld ?_
    case hy => (intro w hSw; (try dsimp only at hSw); go_simp; try with_reducible rfl)
    try simp only [List.setIfInBounds_toArray, List.set_cons_zero, List.set_cons_succ]
    refine stepD 30 rfl (by kernel_rfl) (fun Kc hKc => ?_)
    refine Eq.mpr (if_pos (by kernel_rfl)) ?_
    go_simp
    refine (lives_yes _).mono ?_; rintro e w7 ⟨rfl, hE1⟩; replace hE0 := Ext.trans hE0 hE1; replace hE3 := Ext.trans hE3 hE1; replace pl := pl.ext hE1; replace pl_0 := pl.cell (i := 0) rfl; replace pl_1 := pl.cell (i := 1) rfl; replace pl_2 := pl.cell (i := 2) rfl; replace pl_3 := pl.cell (i := 3) rfl; replace pl_f0 := pl.free 0; replace pl_f1 := pl.free 1; replace pl_f2 := pl.free 2; replace pl_f3 := pl.free 3; replace pl_lt := pl.lt; replace st := st.ext hE1; replace st_0 := st.cell (i := 0) rfl; replace st_1 := st.cell (i := 1) rfl; replace st_2 := st.cell (i := 2) rfl; replace st_f0 := st.free 0; replace st_f1 := st.free 1; replace st_f2 := st.free 2; replace st_lt := st.lt
    go_wp2_with fail
    refine hKc.out _ _ ⟨st_0, st_1, st_2, pl_0, pl_1, pl_2, pl_3, HCELLS.out _ hE0⟩ (fun hHeld => ?_)
    clear hKc Kc
    try simp only [Act.put, List.setIfInBounds_toArray, List.set_cons_zero, List.set_cons_succ]
    refine takeD 31 218 (v := ?_) rfl rfl (by kernel_rfl) (by kernel_rfl) (by kernel_rfl) (fun _ _ _ h => h) (Or.inl ⟨by kernel_rfl, ?hy⟩) hHeld ?_
    case hy => (intro w hSw; (try dsimp only at hSw); go_simp; try with_reducible rfl)
    try simp only [List.setIfInBounds_toArray, List.set_cons_zero, List.set_cons_succ]
    refine takeD 32 4 (v := ?_) rfl rfl (by kernel_rfl) (by kernel_rfl) (by kernel_rfl) (fun _ _ _ h => h) (Or.inl ⟨by kernel_rfl, ?hy⟩) hHeld ?_
    case hy => (intro w hSw; (try dsimp only at hSw); go_simp; try with_reducible rfl)
    try simp only [List.setIfInBounds_toArray, List.set_cons_zero, List.set_cons_succ]
    refine wpAnyH_done (by kernel_rfl) ?_ _
    refine NoPanic.normal ?_
    exact hQ _ _ _ _ _ _ _ _ _ _ _ _ _ _ _ _ _ _ _ _ _ _ _ _ _ _ _ _ _ _ _ _ _ hE3
  · obtain ⟨rfl, rfl, rfl, rfl, rfl, rfl, rfl⟩ := HSE2.out h0
    have hs0 : (s4 != 0) = true := by simpa using h0
    have hs1 : (s4 == 0) = false := by simpa using h0
    skip
    replace st_0 := st.cell (i := 0) rfl
    replace st_1 := st.cell (i := 1) rfl
    replace st_2 := st.cell (i := 2) rfl
    replace st_f0 := st.free 0
    replace st_f1 := st.free 1
    replace st_f2 := st.free 2
    replace st_lt := st.lt
    clear h0
    refine wp_region_noPanic ?_
    refine wp_region_held_drew (S := (fun w' => w'.cell? ⟨qb, 0, none⟩ = some (.bool false) ∧ w'.cell? ⟨qb, 1, none⟩ = some (.slice none 0 0) ∧ w'.cell? ⟨qb, 2, none⟩ = some (.slice none 0 0) ∧ w'.cell? ⟨bpl, 0, none⟩ = some (.int .i64 r) ∧ w'.cell? ⟨bpl, 1, none⟩ = some (.int .i64 r2) ∧ w'.cell? ⟨bpl, 2, none⟩ = some (.int .i64 k) ∧ w'.cell? ⟨bpl, 3, none⟩ = some (.int .i64 k2) ∧ w'.cell? ⟨b5, o5, none⟩ = some (.bool sx) ∧ w'.cell? ⟨b5, o5 + 1, none⟩ = some (.slice ax nx cx) ∧ w'.cell? ⟨b5, o5 + 2, none⟩ = some (.slice ax2 nx2 cx2) ∧ w'.cell? ⟨b5, o5 + 3, none⟩ = some (.bool sy) ∧ w'.cell? ⟨b5, o5 + 3 + 1, none⟩ = some (.slice ay ny cy) ∧ w'.cell? ⟨b5, o5 + 3 + 2, none⟩ = some (.slice ay2 ny2 cy2))) (by kernel_rfl) ⟨st_0, st_1, st_2, pl_0, pl_1, pl_2, pl_3, HCELLS.out _ hE0⟩ (fun hHeld => ?_)
    refine takeD 0 187 (v := ?_) rfl rfl (by kernel_rfl) (by kernel_rfl) (by kernel_rfl) (fun _ _ _ h => h) (Or.inl ⟨by kernel_rfl, ?hy⟩) hHeld ?_
    case hy => (intro w hSw; (try dsimp only at hSw); go_simp; try with_reducible rfl)
    try simp only [List.setIfInBounds_toArray, List.set_cons_zero, List.set_cons_succ]
    refine takeD 1 188 (v := ?_) rfl rfl (by kernel_rfl) (by kernel_rfl) (by kernel_rfl) (fun _ _ _ h => h) (Or.inl ⟨by kernel_rfl, ?hy⟩) hHeld ?_
    case hy => (intro w hSw; (try dsimp only at hSw); go_simp; try with_reducible rfl)
    try simp only [List.setIfInBounds_toArray, List.set_cons_zero, List.set_cons_succ]
    refine takeD 2 189 (v := ?_) rfl rfl (by kernel_rfl) (by kernel_rfl) (by kernel_rfl) (fun _ _ _ h => h) (Or.inl ⟨by kernel_rfl, ?hy⟩) hHeld ?_
    case hy => (intro w hSw; (try dsimp only at hSw); go_simp; try with_reducible rfl)
    try simp only [List.setIfInBounds_toArray, List.set_cons_zero, List.set_cons_succ]
    refine takeD 3 190 (v := ?_) rfl rfl (by kernel_rfl) (by kernel_rfl) (by kernel_rfl) (fun _ _ _ h => h) (Or.inl ⟨by kernel_rfl, ?hy⟩) hHeld ?_
    case hy => (intro w hSw; (try dsimp only at hSw); go_simp; try with_reducible rfl)
    try simp only [List.setIfInBounds_toArray, List.set_cons_zero, List.set_cons_succ]
    refine takeD 4 191 (v := ?_) rfl rfl (by kernel_rfl) (by kernel_rfl) (by kernel_rfl) (fun _ _ _ h => h) (Or.inl ⟨by kernel_rfl, ?hy⟩) hHeld ?_
    case hy => (intro w hSw; (try dsimp only at hSw); go_simp; try with_reducible rfl)
    try simp only [List.setIfInBounds_toArray, List.set_cons_zero, List.set_cons_succ]
    refine takeD 5 192 (v := ?_) rfl rfl (by kernel_rfl) (by kernel_rfl) (by kernel_rfl) (fun _ _ _ h => h) (Or.inl ⟨by kernel_rfl, ?hy⟩) hHeld ?_
    case hy => (intro w hSw; (try dsimp only at hSw); go_simp; try with_reducible rfl)
    try simp only [List.setIfInBounds_toArray, List.set_cons_zero, List.set_cons_succ]
    refine stepD 6 rfl (by kernel_rfl) (fun Kc hKc => ?_)
    refine Eq.mpr (if_pos (by kernel_rfl)) ?_
    go_simp
    refine (refused_yes _ s4).mono ?_; rintro e w6 ⟨rfl, hE1⟩; replace hE0 := Ext.trans hE0 hE1; replace hE3 := Ext.trans hE3 hE1; replace pl := pl.ext hE1; replace pl_0 := pl.cell (i := 0) rfl; replace pl_1 := pl.cell (i := 1) rfl; replace pl_2 := pl.cell (i := 2) rfl; replace pl_3 := pl.cell (i := 3) rfl; replace pl_f0 := pl.free 0; replace pl_f1 := pl.free 1; replace pl_f2 := pl.free 2; replace pl_f3 := pl.free 3; replace pl_lt := pl.lt; replace st := st.ext hE1; replace st_0 := st.cell (i := 0) rfl; replace st_1 := st.cell (i := 1) rfl; replace st_2 := st.cell (i := 2) rfl; replace st_f0 := st.free 0; replace st_f1 := st.free 1; replace st_f2 := st.free 2; replace st_lt := st.lt
    go_wp2_with fail
    refine hKc.out _ _ ⟨st_0, st_1, st_2, pl_0, pl_1, pl_2, pl_3, HCELLS.out _ hE0⟩ (fun hHeld => ?_)
    clear hKc Kc
    try simp only [Act.put, List.setIfInBounds_toArray, List.set_cons_zero, List.set_cons_succ]
    refine takeD 7 194 (v := ?_) rfl rfl (by kernel_rfl) (by kernel_rfl) (by kernel_rfl) (fun _ _ _ h => h) (Or.inl ⟨by kernel_rfl, ?hy⟩) hHeld ?_
    case hy => (intro w hSw; (try dsimp only at hSw); go_simp; try with_reducible rfl)
    try simp only [List.setIfInBounds_toArray, List.set_cons_zero, List.set_cons_succ]
    refine takeD 8 195 (v := ?_) rfl rfl (by kernel_rfl) (by kernel_rfl) (by kernel_rfl) (fun _ _ _ h => h) (Or.inl ⟨by kernel_rfl, ?hy⟩) hHeld ?_
    case hy => (intro w hSw; (try dsimp only at hSw); go_simp; try with_reducible rfl)
    try simp only [List.setIfInBounds_toArray, List.set_cons_zero, List.set_cons_succ]
    refine takeD 9 196 (v := undef) rfl rfl (by kernel_rfl) (by kernel_rfl) (by kernel_rfl) (fun _ _ _ h => h) (Or.inr ⟨by kernel_rfl, rfl⟩) hHeld ?_
    try simp only [List.setIfInBounds_toArray, List.set_cons_zero, List.set_cons_succ]
    refine takeD 10 197 (v := undef) rfl rfl (by kernel_rfl) (by kernel_rfl) (by kernel_rfl) (fun _ _ _ h => h) (Or.inr ⟨by kernel_rfl, rfl⟩) hHeld ?_
    try simp only [List.setIfInBounds_toArray, List.set_cons_zero, List.set_cons_succ]
    refine takeD 11 198 (v := undef) rfl rfl (by kernel_rfl) (by kernel_rfl) (by kernel_rfl) (fun _ _ _ h => h) (Or.inr ⟨by kernel_rfl, rfl⟩) hHeld ?_
    try simp only [List.setIfInBounds_toArray, List.set_cons_zero, List.set_cons_succ]
    refine takeD 12 199 (v := undef) rfl rfl (by kernel_rfl) (by kernel_rfl) (by kernel_rfl) (fun _ _ _ h => h) (Or.inr ⟨by kernel_rfl, rfl⟩) hHeld ?_
    try simp only [List.setIfInBounds_toArray, List.set_cons_zero, List.set_cons_succ]
    refine takeD 13 200 (v := undef) rfl rfl (by kernel_rfl) (by kernel_rfl) (by kernel_rfl) (fun _ _ _ h => h) (Or.inr ⟨by kernel_rfl, rfl⟩) hHeld ?_
    try simp only [List.setIfInBounds_toArray, List.set_cons_zero, List.set_cons_succ]
    refine takeD 14 201 (v := undef) rfl rfl (by kernel_rfl) (by kernel_rfl) (by kernel_rfl) (fun _ _ _ h => h) (Or.inr ⟨by kernel_rfl, rfl⟩) hHeld ?_
    try simp only [List.setIfInBounds_toArray, List.set_cons_zero, List.set_cons_succ]
    refine takeD 15 202 (v := undef) rfl rfl (by kernel_rfl) (by kernel_rfl) (by kernel_rfl) (fun _ _ _ h => h) (Or.inr ⟨by kernel_rfl, rfl⟩) hHeld ?_
    try simp only [List.setIfInBounds_toArray, List.set_cons_zero, List.set_cons_succ]
    refine takeD 16 203 (v := undef) rfl rfl (by kernel_rfl) (by kernel_rfl) (by kernel_rfl) (fun _ _ _ h => h) (Or.inr ⟨by kernel_rfl, rfl⟩) hHeld ?_
    try simp only [List.setIfInBounds_toArray, List.set_cons_zero, List.set_cons_succ]
    refine takeD 17 204 (v := undef) rfl rfl (by kernel_rfl) (by kernel_rfl) (by kernel_rfl) (fun _ _ _ h => h) (Or.inr ⟨by kernel_rfl, rfl⟩) hHeld ?_
    try simp only [List.setIfInBounds_toArray, List.set_cons_zero, List.set_cons_succ]
    refine takeD 18 205 (v := undef) rfl rfl (by kernel_rfl) (by kernel_rfl) (by kernel_rfl) (fun _ _ _ h => h) (Or.inr ⟨by kernel_rfl, rfl⟩) hHeld ?_
    try simp only [List.setIfInBounds_toArray, List.set_cons_zero, List.set_cons_succ]
    refine takeD 19 206 (v := undef) rfl rfl (by kernel_rfl) (by kernel_rfl) (by kernel_rfl) (fun _ _ _ h => h) (Or.inr ⟨by kernel_rfl, rfl⟩) hHeld ?_
    try simp only [List.setIfInBounds_toArray, List.set_cons_zero, List.set_cons_succ]
    refine takeD 20 207 (v := undef) rfl rfl (by kernel_rfl) (by kernel_rfl) (by kernel_rfl) (fun _ _ _ h => h) (Or.inr ⟨by kernel_rfl, rfl⟩) hHeld ?_
    try simp only [List.setIfInBounds_toArray, List.set_cons_zero, List.set_cons_succ]
    refine takeD 21 208 (v := undef) rfl rfl (by kernel_rfl) (by kernel_rfl) (by kernel_rfl) (fun _ _ _ h => h) (Or.inr ⟨by kernel_rfl, rfl⟩) hHeld ?_
    try simp only [List.setIfInBounds_toArray, List.set_cons_zero, List.set_cons_succ]
    refine takeD 22 209 (v := undef) rfl rfl (by kernel_rfl) (by kernel_rfl) (by kernel_rfl) (fun _ _ _ h => h) (Or.inr ⟨by kernel_rfl, rfl⟩) hHeld ?_
    try simp only [List.setIfInBounds_toArray, List.set_cons_zero, List.set_cons_succ]
    refine takeD 23 210 (v := undef) rfl rfl (by kernel_rfl) (by kernel_rfl) (by kernel_rfl) (fun _ _ _ h => h) (Or.inr ⟨by kernel_rfl, rfl⟩) hHeld ?_
    try simp only [List.setIfInBounds_toArray, List.set_cons_zero, List.set_cons_succ]
    refine takeD 24 211 (v := undef) rfl rfl (by kernel_rfl) (by kernel_rfl) (by kernel_rfl) (fun _ _ _ h => h) (Or.inr ⟨by kernel_rfl, rfl⟩) hHeld ?_
    try simp only [List.setIfInBounds_toArray, List.set_cons_zero, List.set_cons_succ]
    refine skipD 25 212 rfl rfl (by kernel_rfl) (by kernel_rfl) hHeld ?_
    try simp only [List.setIfInBounds_toArray, List.set_cons_zero, List.set_cons_succ]
    refine skipD 26 213 rfl rfl (by kernel_rfl) (by kernel_rfl) hHeld ?_
    try simp only [List.setIfInBounds_toArray, List.set_cons_zero, List.set_cons_succ]
    refine takeD 27 214 (v := undef) rfl rfl (by kernel_rfl) (by kernel_rfl) (by kernel_rfl) (fun _ _ _ h => h) (Or.inr ⟨by kernel_rfl, rfl⟩) hHeld ?_
    try simp only [List.setIfInBounds_toArray, List.set_cons_zero, List.set_cons_succ]
    refine takeD 28 215 (v := ?_) rfl rfl (by kernel_rfl) (by kernel_rfl) (by kernel_rfl) (fun _ _ _ h => h) (Or.inl ⟨by kernel_rfl, ?hy⟩) hHeld ?_
    case hy => (intro w hSw; (try dsimp only at hSw); go_simp; try with_reducible rfl)
    try simp only [List.setIfInBounds_toArray, List.set_cons_zero, List.set_cons_succ]
    refine takeD 29 216 (v := ?_) rfl rfl (by kernel_rfl) (by kernel_rfl) (by kernel_rfl) (fun _ _ _ h => h) (Or.inl ⟨by kernel_rfl, ?hy⟩) hHeld ?_
    case hy => (intro w hSw; (try dsimp only at hSw); go_simp; try with_reducible rfl)
    try simp only [List.setIfInBounds_toArray, List.set_cons_zero, List.set_cons_succ]
    refine stepD 30 rfl (by kernel_rfl) (fun Kc hKc => ?_)
    refine Eq.mpr (if_pos (by kernel_rfl)) ?_
    go_simp
    refine (lives_yes _).mono ?_; rintro e w7 ⟨rfl, hE1⟩; replace hE0 := Ext.trans hE0 hE1; replace hE3 := Ext.trans hE3 hE1; replace pl := pl.ext hE1; replace pl_0 := pl.cell (i := 0) rfl; replace pl_1 := pl.cell (i := 1) rfl; replace pl_2 := pl.cell (i := 2) rfl; replace pl_3 := pl.cell (i := 3) rfl; replace pl_f0 := pl.free 0; replace pl_f1 := pl.free 1; replace pl_f2 := pl.free 2; replace pl_f3 := pl.free 3; replace pl_lt := pl.lt; replace st := st.ext hE1; replace st_0 := st.cell (i := 0) rfl; replace st_1 := st.cell (i := 1) rfl; replace st_2 := st.cell (i := 2) rfl; replace st_f0 := st.free 0; replace st_f1 := st.free 1; replace st_f2 := st.free 2; replace st_lt := st.lt
    go_wp2_with fail
    refine hKc.out _ _ ⟨st_0, st_1, st_2, pl_0, pl_1, pl_2, pl_3, HCELLS.out _ hE0⟩ (fun hHeld => ?_)
    clear hKc Kc
    try simp only [Act.put, List.setIfInBounds_toArray, List.set_cons_zero, List.set_cons_succ]
    refine takeD 31 218 (v := ?_) rfl rfl (by kernel_rfl) (by kernel_rfl) (by kernel_rfl) (fun _ _ _ h => h) (Or.inl ⟨by kernel_rfl, ?hy⟩) hHeld ?_
    case hy => (intro w hSw; (try dsimp only at hSw); go_simp; try with_reducible rfl)
    try simp only [List.setIfInBounds_toArray, List.set_cons_zero, List.set_cons_succ]
    refine takeD 32 4 (v := ?_) rfl rfl (by kernel_rfl) (by kernel_rfl) (by kernel_rfl) (fun _ _ _ h => h) (Or.inl ⟨by kernel_rfl, ?hy⟩) hHeld ?_
    case hy => (intro w hSw; (try dsimp only at hSw); go_simp; try with_reducible rfl)
    try simp only [List.setIfInBounds_toArray, List.set_cons_zero, List.set_cons_succ]
    refine wpAnyH_done (by kernel_rfl) ?_ _
    refine NoPanic.normal ?_
    exact hQ _ _ _ _ _ _ _ _ _ _ _ _ _ _ _ _ _ _ _ _ _ _ _ _ _ _ _ _ _ _ _ _ _ hE3
end Go.Proofs.Ytbhenelehhiakaa
