/-
  The law QmatParts: region 14.
-/
import Derived.Test.YtbhenelehhiakaaPart38
set_option linter.unusedVariables false
set_option linter.unusedSimpArgs false
namespace Go.Proofs.Ytbhenelehhiakaa
open Go.RowKit

set_option maxRecDepth 1000000 in
set_option maxHeartbeats 40000000 in
theorem parts_r14 (K : Nat) (hK : K ≤ 1048576) (w9 wc : World) (HEc : Hid (Ext w9 wc)) (i c : Nat) (b5 o5 : Nat) (sx : Bool) (ax : Option Addr) (nx cx : Nat) (ax2 : Option Addr) (nx2 cx2 : Nat) (x : Int × List (List Int)) (sy : Bool) (ay : Option Addr) (ny cy : Nat) (ay2 : Option Addr) (ny2 cy2 : Nat) (y : Int × List (List Int)) (h0i : 0 < i) (h1i : (1 : Int) < (i : Int))
    (HCELLS : Hid (∀ W' : World, Ext w9 W' → W'.cell? ⟨b5, o5, none⟩ = some (.bool sx) ∧ W'.cell? ⟨b5, o5 + 1, none⟩ = some (.slice ax nx cx) ∧ W'.cell? ⟨b5, o5 + 2, none⟩ = some (.slice ax2 nx2 cx2) ∧ W'.cell? ⟨b5, o5 + 3, none⟩ = some (.bool sy) ∧ W'.cell? ⟨b5, o5 + 3 + 1, none⟩ = some (.slice ay ny cy) ∧ W'.cell? ⟨b5, o5 + 3 + 2, none⟩ = some (.slice ay2 ny2 cy2))) (HX : Hid (MatS K w9 sx ax nx cx ax2 nx2 cx2 x.1 x.2)) (HY : Hid (MatS K w9 sy ay ny cy ay2 ny2 cy2 y.1 y.2)) (hxb : nx2 ≤ 1048576) (hyb : ny2 ≤ 1048576) (HXC : Hid (colsOf x.2 ≤ 524288)) (HYC : Hid (colsOf y.2 ≤ 524288)) (z3 : Int) (HZ3 : Hid (checksE [x, y] = z3))
    (x1 x2 x3 x4 x5 x6 x7 x8 x9 x10 x11 x12 x13 x14 x15 x16 x17 x18 x19 x20 x21 x22 x23 x24 x25 x26 x27 x28 x29 x30 x31 x32 x33 x34 x35 x36 x37 x38 x39 x40 x41 x42 x43 x44 x45 x46 x47 x48 x49 x50 x51 x52 x53 x54 x55 x56 x57 x58 x59 x60 x61 x62 x63 x64 x65 x66 x67 x68 x69 x70 x71 x72 x73 x74 x75 x76 x77 x78 x79 x80 x81 x82 x83 x84 x85 x86 x87 x88 x89 x90 x91 x92 x93 x94 x95 x96 x97 x98 x99 x100 x101 x102 x103 x104 x105 x106 x107 x108 x109 x110 x111 x112 x113 x114 x115 x116 x117 x118 x119 x120 x121 x122 x123 x124 x125 x126 x127 x128 x129 x130 x131 x132 x133 x134 x135 x136 x137 x138 x139 x140 x141 x142 x143 x144 x145 x146 x147 x148 x149 x150 x151 x152 x153 x154 x155 x156 x157 x158 x159 x160 x161 x162 x163 x164 x165 x166 x167 x168 x169 x170 x171 x172 x173 x174 x175 x176 x177 x178 x179 x180 x181 x182 x183 x184 x185 x186 x187 x188 x189 x190 x191 x192 x193 x194 x195 x196 x197 x198 x199 x200 x201 x202 x203 x204 x205 x206 x207 x208 x209 x210 x211 x212 x213 x214 x215 x216 x217 x218 : Value)
    (Q : Exit → Act → World → Prop) (hQ : ∀ (v69 v70 v71 v72 v73 v74 v75 : Value) (w' : World), Ext wc w' → Q .normal { tmps := #[.slice (some ⟨b5, o5, none⟩) i c, x1, x2, x3, x4, x5, x6, x7, x8, x9, x10, x11, .int .i64 z3, x13, x14, x15, x16, x17, x18, x19, x20, x21, x22, x23, x24, x25, x26, x27, x28, x29, x30, x31, x32, x33, x34, x35, x36, x37, x38, x39, x40, x41, x42, x43, x44, x45, x46, x47, x48, x49, x50, x51, x52, x53, x54, x55, x56, x57, x58, x59, x60, x61, x62, x63, x64, x65, x66, x67, x68, v69, v70, v71, v72, v73, v74, v75, x76, x77, x78, x79, x80, x81, x82, x83, x84, x85, x86, x87, x88, x89, x90, x91, x92, x93, x94, x95, x96, x97, x98, x99, x100, x101, x102, x103, x104, x105, x106, x107, x108, x109, x110, x111, x112, x113, x114, x115, x116, x117, x118, x119, x120, x121, x122, x123, x124, x125, x126, x127, x128, x129, x130, x131, x132, x133, x134, x135, x136, x137, x138, x139, x140, x141, x142, x143, x144, x145, x146, x147, x148, x149, x150, x151, x152, x153, x154, x155, x156, x157, x158, x159, x160, x161, x162, x163, x164, x165, x166, x167, x168, x169, x170, x171, x172, x173, x174, x175, x176, x177, x178, x179, x180, x181, x182, x183, x184, x185, x186, x187, x188, x189, x190, x191, x192, x193, x194, x195, x196, x197, x198, x199, x200, x201, x202, x203, x204, x205, x206, x207, x208, x209, x210, x211, x212, x213, x214, x215, x216, x217, x218], defers := [] } w') :
    Code.wp Try.prog (partsReg 14) Q { tmps := #[.slice (some ⟨b5, o5, none⟩) i c, x1, x2, x3, x4, x5, x6, x7, x8, x9, x10, x11, x12, x13, x14, x15, x16, x17, x18, x19, x20, x21, x22, x23, x24, x25, x26, x27, x28, x29, x30, x31, x32, x33, x34, x35, x36, x37, x38, x39, x40, x41, x42, x43, x44, x45, x46, x47, x48, x49, x50, x51, x52, x53, x54, x55, x56, x57, x58, x59, x60, x61, x62, x63, x64, x65, x66, x67, x68, x69, x70, x71, x72, x73, x74, x75, x76, x77, x78, x79, x80, x81, x82, x83, x84, x85, x86, x87, x88, x89, x90, x91, x92, x93, x94, x95, x96, x97, x98, x99, x100, x101, x102, x103, x104, x105, x106, x107, x108, x109, x110, x111, x112, x113, x114, x115, x116, x117, x118, x119, x120, x121, x122, x123, x124, x125, x126, x127, x128, x129, x130, x131, x132, x133, x134, x135, x136, x137, x138, x139, x140, x141, x142, x143, x144, x145, x146, x147, x148, x149, x150, x151, x152, x153, x154, x155, x156, x157, x158, x159, x160, x161, x162, x163, x164, x165, x166, x167, x168, x169, x170, x171, x172, x173, x174, x175, x176, x177, x178, x179, x180, x181, x182, x183, x184, x185, x186, x187, x188, x189, x190, x191, x192, x193, x194, x195, x196, x197, x198, x199, x200, x201, x202, x203, x204, x205, x206, x207, x208, x209, x210, x211, x212, x213, x214, x215, x216, x217, x218], defers := [] } wc := by
  conv => arg 2; whnf
  have hE3 : Ext wc wc.drew := (Below.refl _ _).drew
  have hE0 := Ext.trans HEc.out hE3
  refine wp_region_noPanic ?_
  refine wp_region_held_drew (S := (fun w' => w'.cell? ⟨b5, o5, none⟩ = some (.bool sx) ∧ w'.cell? ⟨b5, o5 + 1, none⟩ = some (.slice ax nx cx) ∧ w'.cell? ⟨b5, o5 + 2, none⟩ = some (.slice ax2 nx2 cx2) ∧ w'.cell? ⟨b5, o5 + 3, none⟩ = some (.bool sy) ∧ w'.cell? ⟨b5, o5 + 3 + 1, none⟩ = some (.slice ay ny cy) ∧ w'.cell? ⟨b5, o5 + 3 + 2, none⟩ = some (.slice ay2 ny2 cy2))) (by kernel_rfl) (HCELLS.out _ hE0) (fun hHeld => ?_)
  refine takeD 0 69 (v := ?_) rfl rfl (by kernel_rfl) (by kernel_rfl) (by kernel_rfl) (fun _ _ _ h => h) (Or.inl ⟨by kernel_rfl, ?hy⟩) hHeld ?_
  case hy => (intro w hSw; (try dsimp only at hSw); go_simp; try with_reducible rfl)
  try simp only [List.setIfInBounds_toArray, List.set_cons_zero, List.set_cons_succ]
  refine takeD 1 70 (v := ?_) rfl rfl (by kernel_rfl) (by kernel_rfl) (by kernel_rfl) (fun _ _ _ h => h) (Or.inl ⟨by kernel_rfl, ?hy⟩) hHeld ?_
  case hy => (intro w hSw; (try dsimp only at hSw); go_simp; try with_reducible rfl)
  try simp only [List.setIfInBounds_toArray, List.set_cons_zero, List.set_cons_succ]
  refine takeD 2 71 (v := ?_) rfl rfl (by kernel_rfl) (by kernel_rfl) (by kernel_rfl) (fun _ _ _ h => h) (Or.inl ⟨by kernel_rfl, ?hy⟩) hHeld ?_
  case hy => (intro w hSw; (try dsimp only at hSw); go_simp; try with_reducible rfl)
  try simp only [List.setIfInBounds_toArray, List.set_cons_zero, List.set_cons_succ]
  refine takeD 3 72 (v := ?_) rfl rfl (by kernel_rfl) (by kernel_rfl) (by kernel_rfl) (fun _ _ _ h => h) (Or.inl ⟨by kernel_rfl, ?hy⟩) hHeld ?_
  case hy => (intro w hSw; (try dsimp only at hSw); go_simp; try with_reducible rfl)
  try simp only [List.setIfInBounds_toArray, List.set_cons_zero, List.set_cons_succ]
  refine takeD 4 73 (v := ?_) rfl rfl (by kernel_rfl) (by kernel_rfl) (by kernel_rfl) (fun _ _ _ h => h) (Or.inl ⟨by kernel_rfl, ?hy⟩) hHeld ?_
  case hy => (intro w hSw; (try dsimp only at hSw); go_simp; try with_reducible rfl)
  try simp only [List.setIfInBounds_toArray, List.set_cons_zero, List.set_cons_succ]
  refine takeD 5 74 (v := ?_) rfl rfl (by kernel_rfl) (by kernel_rfl) (by kernel_rfl) (fun _ _ _ h => h) (Or.inl ⟨by kernel_rfl, ?hy⟩) hHeld ?_
  case hy => (intro w hSw; (try dsimp only at hSw); go_simp; try with_reducible rfl)
  try simp only [List.setIfInBounds_toArray, List.set_cons_zero, List.set_cons_succ]
  refine stepD 6 rfl (by kernel_rfl) (fun Kc hKc => ?_)
  refine Eq.mpr (if_pos (by kernel_rfl)) ?_
  go_simp
  refine (both_any K (by omega) wc.drew sx ax ax2 nx cx nx2 cx2 x (HX.out.ext hE0) sy ay ay2 ny cy ny2 cy2 y (HY.out.ext hE0) z3 HZ3).mono ?_; rintro e w14 ⟨rfl, hE1⟩; replace hE0 := Ext.trans hE0 hE1; replace hE3 := Ext.trans hE3 hE1
  go_wp2_with fail
  refine hKc.out _ _ (HCELLS.out _ hE0) (fun hHeld => ?_)
  clear hKc Kc
  try simp only [Act.put, List.setIfInBounds_toArray, List.set_cons_zero, List.set_cons_succ]
  refine takeD 7 12 (v := ?_) rfl rfl (by kernel_rfl) (by kernel_rfl) (by kernel_rfl) (fun _ _ _ h => h) (Or.inl ⟨by kernel_rfl, ?hy⟩) hHeld ?_
  case hy => (intro w hSw; (try dsimp only at hSw); go_simp; try with_reducible rfl)
  try simp only [List.setIfInBounds_toArray, List.set_cons_zero, List.set_cons_succ]
  refine wpAnyH_done (by kernel_rfl) ?_ _
  refine NoPanic.normal ?_
  exact hQ _ _ _ _ _ _ _ _ hE3
end Go.Proofs.Ytbhenelehhiakaa
