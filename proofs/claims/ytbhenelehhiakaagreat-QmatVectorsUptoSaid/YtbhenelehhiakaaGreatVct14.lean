/-
  The law QmatVectors: regions 13, 15, 31.
-/
import Derived.Test.YtbhenelehhiakaaGreatVct13
import Derived.Test.YtbhenelehhiakaaGreatRows
import Derived.WalkKit
import Derived.ProofKit
import Derived.OpenShut
import Derived.JoinedCond
import Derived.Carry
set_option linter.unusedVariables false
set_option linter.unusedSimpArgs false
namespace Go.Proofs.YtbhenelehhiakaaGreat
open Go.RowKit
set_option maxRecDepth 1000000 in
set_option maxHeartbeats 40000000 in
theorem vec_r13_1 (K : Nat) (hK : 16 * K + 16777216 ≤ 549755813888) (w9 : World) (bv : Bool) (av av2 : Option Addr) (nv cv nv2 cv2 : Nat) (v : Int × List Int) (lv : Nt) (xv : List It) (HV : Hid (RawV K w9 bv av nv cv av2 nv2 cv2 v.1 v.2 lv xv)) (bw : Bool) (aw aw2 : Option Addr) (nw cw nw2 cw2 : Nat) (y : Int × List Int) (lw : Nt) (xw : List It) (HW : Hid (RawV K w9 bw aw nw cw aw2 nw2 cw2 y.1 y.2 lw xw)) (hnv2 : nv2 ≤ 1048576) (hnw2 : nw2 ≤ 1048576) (s2 : Int) (sb : Bool) (hs2 : s2 = 0) (hv : v.1 ≠ 0) (hw : y.1 ≠ 0) (HSB : Hid (sb = true ↔ frV v.1 v.2 = frV y.1 y.2)) (qa qb : Nat) (HA : Hid (Blk w9 qa 32 #[.bool bv, .slice av nv cv, .slice av2 nv2 cv2])) (HB : Hid (Blk w9 qb 32 #[.bool bw, .slice aw nw cw, .slice aw2 nw2 cw2]))
  (x0 x1 x2 x3 x4 x5 x6 x9 x10 x11 x14 x15 x16 x17 x18 x19 x20 x21 x22 x23 x24 x25 x26 x27 x28 x29 x30 x31 x32 x33 x34 x35 x36 x37 x38 x39 x40 x41 x42 x43 x44 x45 x46 x47 x48 x49 x50 x51 x52 x53 x54 x55 x56 x57 x58 x59 x60 x61 x62 x63 x64 x65 x66 x67 x68 x69 x70 x71 x72 x73 x74 x75 x76 x77 x78 x79 x80 x81 x82 x83 x84 x85 x86 x87 x88 x89 x90 x91 x92 x93 x94 x95 x96 x97 x98 x99 x100 x101 x102 x103 x104 x105 x106 x107 x108 x109 x110 x111 x112 x113 x114 x115 x116 x117 x118 x119 x120 x121 x122 x123 x124 x125 x126 x127 x128 x129 x130 x131 x132 x133 x134 x135 x136 x137 x138 x139 x140 x141 x142 x143 x144 x145 x146 x147 x148 x149 x150 x151 x152 x153 x154 x155 x156 x157 x158 x159 x160 x161 x162 x163 x164 x165 x166 x167 x168 x169 x170 x171 x172 x173 x174 x175 x176 x177 x178 x179 x180 x181 x182 x183 x184 x185 x186 x187 x188 x189 x190 x191 x192 x193 x194 x195 x196 x197 x198 x199 x200 x201 : Value) (Q : Exit → Act → World → Prop) (hQ : ∀ (v108 v109 v110 v111 v112 v113 v114 v115 v116 v117 : Value) (w' : World), Hid (Ext w9 w') → Q .normal { tmps := #[x0, x1, x2, x3, x4, x5, x6, .pointer (some ⟨qa, 0, none⟩), .pointer (some ⟨qb, 0, none⟩), x9, x10, x11, .bool sb, .int .i64 s2, x14, x15, x16, x17, x18, x19, x20, x21, x22, x23, x24, x25, x26, x27, x28, x29, x30, x31, x32, x33, x34, x35, x36, x37, x38, x39, x40, x41, x42, x43, x44, x45, x46, x47, x48, x49, x50, x51, x52, x53, x54, x55, x56, x57, x58, x59, x60, x61, x62, x63, x64, x65, x66, x67, x68, x69, x70, x71, x72, x73, x74, x75, x76, x77, x78, x79, x80, x81, x82, x83, x84, x85, x86, x87, x88, x89, x90, x91, x92, x93, x94, x95, x96, x97, x98, x99, x100, x101, x102, x103, x104, x105, x106, x107, v108, v109, v110, v111, v112, v113, v114, v115, v116, v117, .bool false, x119, x120, x121, x122, x123, x124, x125, x126, x127, x128, x129, x130, x131, x132, x133, x134, x135, x136, x137, x138, x139, x140, x141, x142, x143, x144, x145, x146, x147, x148, x149, x150, x151, x152, x153, x154, x155, x156, x157, x158, x159, x160, x161, x162, x163, x164, x165, x166, x167, x168, x169, x170, x171, x172, x173, x174, x175, x176, x177, x178, x179, x180, x181, x182, x183, x184, x185, x186, x187, x188, x189, x190, x191, x192, x193, x194, x195, x196, x197, x198, x199, x200, x201], defers := [] } w') (hb : sb = true) :
  Code.wp Tryz.prog (vecReg 13) Q { tmps := #[x0, x1, x2, x3, x4, x5, x6, .pointer (some ⟨qa, 0, none⟩), .pointer (some ⟨qb, 0, none⟩), x9, x10, x11, .bool sb, .int .i64 s2, x14, x15, x16, x17, x18, x19, x20, x21, x22, x23, x24, x25, x26, x27, x28, x29, x30, x31, x32, x33, x34, x35, x36, x37, x38, x39, x40, x41, x42, x43, x44, x45, x46, x47, x48, x49, x50, x51, x52, x53, x54, x55, x56, x57, x58, x59, x60, x61, x62, x63, x64, x65, x66, x67, x68, x69, x70, x71, x72, x73, x74, x75, x76, x77, x78, x79, x80, x81, x82, x83, x84, x85, x86, x87, x88, x89, x90, x91, x92, x93, x94, x95, x96, x97, x98, x99, x100, x101, x102, x103, x104, x105, x106, x107, x108, x109, x110, x111, x112, x113, x114, x115, x116, x117, x118, x119, x120, x121, x122, x123, x124, x125, x126, x127, x128, x129, x130, x131, x132, x133, x134, x135, x136, x137, x138, x139, x140, x141, x142, x143, x144, x145, x146, x147, x148, x149, x150, x151, x152, x153, x154, x155, x156, x157, x158, x159, x160, x161, x162, x163, x164, x165, x166, x167, x168, x169, x170, x171, x172, x173, x174, x175, x176, x177, x178, x179, x180, x181, x182, x183, x184, x185, x186, x187, x188, x189, x190, x191, x192, x193, x194, x195, x196, x197, x198, x199, x200, x201], defers := [] } w9 := by
 conv => arg 2; whnf
 have hE0 : Ext w9 w9.drew := (Below.refl _ _).drew
 have hsd : decide ((false, limbs (comDen (frV v.1 v.2))) = (false, limbs (comDen (frV y.1 y.2))) ∧ rawN (frV v.1 v.2) = rawN (frV y.1 y.2)) = sb := norm_dec _ _ sb HSB.out
 obtain ⟨X, hX⟩ : ∃ X, frV v.1 v.2 = X := ⟨_, rfl⟩
 obtain ⟨Y, hY⟩ : ∃ X, frV y.1 y.2 = X := ⟨_, rfl⟩
 rw [hX, hY] at hsd
 have HSD := Lib.hid hsd
 have HX := Lib.hid hX
 have HY := Lib.hid hY
 clear hX hY hsd HSB
 subst hs2
 subst hb
 have ua := HA.out.ext hE0
 have ub := HB.out.ext hE0
 clear HA HB
 skip
 skip
 replace ua_0 := ua.cell (i := 0) rfl
 replace ua_1 := ua.cell (i := 1) rfl
 replace ua_2 := ua.cell (i := 2) rfl
 replace ub_0 := ub.cell (i := 0) rfl
 replace ub_1 := ub.cell (i := 1) rfl
 replace ub_2 := ub.cell (i := 2) rfl
 refine wp_region_noPanic ?_
 refine wp_region_held_drew (S := (fun w' => w'.cell? ⟨qa, 0, none⟩ = some (.bool bv) ∧ w'.cell? ⟨qa, 1, none⟩ = some (.slice av nv cv) ∧ w'.cell? ⟨qa, 2, none⟩ = some (.slice av2 nv2 cv2) ∧ w'.cell? ⟨qb, 0, none⟩ = some (.bool bw) ∧ w'.cell? ⟨qb, 1, none⟩ = some (.slice aw nw cw) ∧ w'.cell? ⟨qb, 2, none⟩ = some (.slice aw2 nw2 cw2))) (by as_aux_lemma => kernel_rfl) ⟨ua_0, ua_1, ua_2, ub_0, ub_1, ub_2⟩ (fun hHeld => ?_)
 refine takeY 0 108 hHeld ?_
 refine takeY 1 109 hHeld ?_
 refine takeY 2 110 hHeld ?_
 refine takeY 3 111 hHeld ?_
 refine takeY 4 112 hHeld ?_
 refine takeY 6 114 hHeld ?_
 refine stepD 5 rfl (by as_aux_lemma => kernel_rfl) (fun Kc hKc => ?_)
 refine Eq.mpr (if_pos (by as_aux_lemma => kernel_rfl)) ?_
 go_simp
 refine (r11VecNorm_any K (by omega) _ bv av av2 nv cv nv2 cv2 v.1 v.2 (HV.out.ext hE0).vec hv (by omega) X HX).mono ?_; rintro e v8 hr; obtain ⟨a7, n7, c7, a8, n8, c8, rfl, g7, g8, hE1⟩ := hr.raw; replace ua := ua.ext hE1; replace ua_0 := ua.cell (i := 0) rfl; replace ua_1 := ua.cell (i := 1) rfl; replace ua_2 := ua.cell (i := 2) rfl; replace ub := ub.ext hE1; replace ub_0 := ub.cell (i := 0) rfl; replace ub_1 := ub.cell (i := 1) rfl; replace ub_2 := ub.cell (i := 2) rfl; replace hE0 := Ext.trans hE0 hE1
 go_wp2_with fail
 refine hKc.out _ _ ⟨ua_0, ua_1, ua_2, ub_0, ub_1, ub_2⟩ (fun hHeld => ?_)
 clear hKc Kc
 try simp only [Act.put, List.setIfInBounds_toArray, List.set_cons_zero, List.set_cons_succ]
 refine stepD 7 rfl (by as_aux_lemma => kernel_rfl) (fun Kc hKc => ?_)
 refine Eq.mpr (if_pos (by as_aux_lemma => kernel_rfl)) ?_
 go_simp
 refine (r11VecNorm_any K (by omega) _ bw aw aw2 nw cw nw2 cw2 y.1 y.2 (HW.out.ext hE0).vec hw (by omega) Y HY).mono ?_; rintro e v8 hr; obtain ⟨a9, n9, c9, a10, n10, c10, rfl, g9, g10, hE1⟩ := hr.raw; replace ua := ua.ext hE1; replace ua_0 := ua.cell (i := 0) rfl; replace ua_1 := ua.cell (i := 1) rfl; replace ua_2 := ua.cell (i := 2) rfl; replace ub := ub.ext hE1; replace ub_0 := ub.cell (i := 0) rfl; replace ub_1 := ub.cell (i := 1) rfl; replace ub_2 := ub.cell (i := 2) rfl; replace g7 := g7.ext (Nat.le_refl _) hE1; replace g8 := g8.ext (Nat.le_refl _) hE1; replace hE0 := Ext.trans hE0 hE1
 go_wp2_with fail
 refine hKc.out _ _ ⟨ua_0, ua_1, ua_2, ub_0, ub_1, ub_2⟩ (fun hHeld => ?_)
 clear hKc Kc
 try simp only [Act.put, List.setIfInBounds_toArray, List.set_cons_zero, List.set_cons_succ]
 refine stepD 8 rfl (by as_aux_lemma => kernel_rfl) (fun Kc hKc => ?_)
 refine Eq.mpr (if_pos (by as_aux_lemma => kernel_rfl)) ?_
 go_simp
 refine (sameVec_any _ false false a7 a9 a8 a10 n7 c7 n9 c9 n8 c8 n10 c10 _ _ _ _ g7 g9 g8 g10 true HSD).mono ?_; rintro e v9 ⟨rfl, hE1⟩; clear g7 g8 g9 g10; replace ua := ua.ext hE1; replace ua_0 := ua.cell (i := 0) rfl; replace ua_1 := ua.cell (i := 1) rfl; replace ua_2 := ua.cell (i := 2) rfl; replace ub := ub.ext hE1; replace ub_0 := ub.cell (i := 0) rfl; replace ub_1 := ub.cell (i := 1) rfl; replace ub_2 := ub.cell (i := 2) rfl; replace hE0 := Ext.trans hE0 hE1
 go_wp2_with fail
 refine hKc.out _ _ ⟨ua_0, ua_1, ua_2, ub_0, ub_1, ub_2⟩ (fun hHeld => ?_)
 clear hKc Kc
 try simp only [Act.put, List.setIfInBounds_toArray, List.set_cons_zero, List.set_cons_succ]
 refine takeY 9 117 hHeld ?_
 refine takeY 10 118 hHeld ?_
 refine wpAnyH_done (by as_aux_lemma => kernel_rfl) ?_ _
 refine NoPanic.normal ?_
 exact hQ _ _ _ _ _ _ _ _ _ _ _ (Lib.hid hE0)
set_option maxRecDepth 1000000 in
set_option maxHeartbeats 40000000 in
theorem vec_r13_2 (K : Nat) (hK : 16 * K + 16777216 ≤ 549755813888) (w9 : World) (bv : Bool) (av av2 : Option Addr) (nv cv nv2 cv2 : Nat) (v : Int × List Int) (lv : Nt) (xv : List It) (HV : Hid (RawV K w9 bv av nv cv av2 nv2 cv2 v.1 v.2 lv xv)) (bw : Bool) (aw aw2 : Option Addr) (nw cw nw2 cw2 : Nat) (y : Int × List Int) (lw : Nt) (xw : List It) (HW : Hid (RawV K w9 bw aw nw cw aw2 nw2 cw2 y.1 y.2 lw xw)) (hnv2 : nv2 ≤ 1048576) (hnw2 : nw2 ≤ 1048576) (s2 : Int) (sb : Bool) (hs2 : s2 = 0) (hv : v.1 ≠ 0) (hw : y.1 ≠ 0) (HSB : Hid (sb = true ↔ frV v.1 v.2 = frV y.1 y.2)) (qa qb : Nat) (HA : Hid (Blk w9 qa 32 #[.bool bv, .slice av nv cv, .slice av2 nv2 cv2])) (HB : Hid (Blk w9 qb 32 #[.bool bw, .slice aw nw cw, .slice aw2 nw2 cw2]))
  (x0 x1 x2 x3 x4 x5 x6 x9 x10 x11 x14 x15 x16 x17 x18 x19 x20 x21 x22 x23 x24 x25 x26 x27 x28 x29 x30 x31 x32 x33 x34 x35 x36 x37 x38 x39 x40 x41 x42 x43 x44 x45 x46 x47 x48 x49 x50 x51 x52 x53 x54 x55 x56 x57 x58 x59 x60 x61 x62 x63 x64 x65 x66 x67 x68 x69 x70 x71 x72 x73 x74 x75 x76 x77 x78 x79 x80 x81 x82 x83 x84 x85 x86 x87 x88 x89 x90 x91 x92 x93 x94 x95 x96 x97 x98 x99 x100 x101 x102 x103 x104 x105 x106 x107 x108 x109 x110 x111 x112 x113 x114 x115 x116 x117 x118 x119 x120 x121 x122 x123 x124 x125 x126 x127 x128 x129 x130 x131 x132 x133 x134 x135 x136 x137 x138 x139 x140 x141 x142 x143 x144 x145 x146 x147 x148 x149 x150 x151 x152 x153 x154 x155 x156 x157 x158 x159 x160 x161 x162 x163 x164 x165 x166 x167 x168 x169 x170 x171 x172 x173 x174 x175 x176 x177 x178 x179 x180 x181 x182 x183 x184 x185 x186 x187 x188 x189 x190 x191 x192 x193 x194 x195 x196 x197 x198 x199 x200 x201 : Value) (Q : Exit → Act → World → Prop) (hQ : ∀ (v108 v109 v110 v111 v112 v113 v114 v115 v116 v117 : Value) (w' : World), Hid (Ext w9 w') → Q .normal { tmps := #[x0, x1, x2, x3, x4, x5, x6, .pointer (some ⟨qa, 0, none⟩), .pointer (some ⟨qb, 0, none⟩), x9, x10, x11, .bool sb, .int .i64 s2, x14, x15, x16, x17, x18, x19, x20, x21, x22, x23, x24, x25, x26, x27, x28, x29, x30, x31, x32, x33, x34, x35, x36, x37, x38, x39, x40, x41, x42, x43, x44, x45, x46, x47, x48, x49, x50, x51, x52, x53, x54, x55, x56, x57, x58, x59, x60, x61, x62, x63, x64, x65, x66, x67, x68, x69, x70, x71, x72, x73, x74, x75, x76, x77, x78, x79, x80, x81, x82, x83, x84, x85, x86, x87, x88, x89, x90, x91, x92, x93, x94, x95, x96, x97, x98, x99, x100, x101, x102, x103, x104, x105, x106, x107, v108, v109, v110, v111, v112, v113, v114, v115, v116, v117, .bool false, x119, x120, x121, x122, x123, x124, x125, x126, x127, x128, x129, x130, x131, x132, x133, x134, x135, x136, x137, x138, x139, x140, x141, x142, x143, x144, x145, x146, x147, x148, x149, x150, x151, x152, x153, x154, x155, x156, x157, x158, x159, x160, x161, x162, x163, x164, x165, x166, x167, x168, x169, x170, x171, x172, x173, x174, x175, x176, x177, x178, x179, x180, x181, x182, x183, x184, x185, x186, x187, x188, x189, x190, x191, x192, x193, x194, x195, x196, x197, x198, x199, x200, x201], defers := [] } w') (hb : sb = false) :
  Code.wp Tryz.prog (vecReg 13) Q { tmps := #[x0, x1, x2, x3, x4, x5, x6, .pointer (some ⟨qa, 0, none⟩), .pointer (some ⟨qb, 0, none⟩), x9, x10, x11, .bool sb, .int .i64 s2, x14, x15, x16, x17, x18, x19, x20, x21, x22, x23, x24, x25, x26, x27, x28, x29, x30, x31, x32, x33, x34, x35, x36, x37, x38, x39, x40, x41, x42, x43, x44, x45, x46, x47, x48, x49, x50, x51, x52, x53, x54, x55, x56, x57, x58, x59, x60, x61, x62, x63, x64, x65, x66, x67, x68, x69, x70, x71, x72, x73, x74, x75, x76, x77, x78, x79, x80, x81, x82, x83, x84, x85, x86, x87, x88, x89, x90, x91, x92, x93, x94, x95, x96, x97, x98, x99, x100, x101, x102, x103, x104, x105, x106, x107, x108, x109, x110, x111, x112, x113, x114, x115, x116, x117, x118, x119, x120, x121, x122, x123, x124, x125, x126, x127, x128, x129, x130, x131, x132, x133, x134, x135, x136, x137, x138, x139, x140, x141, x142, x143, x144, x145, x146, x147, x148, x149, x150, x151, x152, x153, x154, x155, x156, x157, x158, x159, x160, x161, x162, x163, x164, x165, x166, x167, x168, x169, x170, x171, x172, x173, x174, x175, x176, x177, x178, x179, x180, x181, x182, x183, x184, x185, x186, x187, x188, x189, x190, x191, x192, x193, x194, x195, x196, x197, x198, x199, x200, x201], defers := [] } w9 := by
 conv => arg 2; whnf
 have hE0 : Ext w9 w9.drew := (Below.refl _ _).drew
 have hsd : decide ((false, limbs (comDen (frV v.1 v.2))) = (false, limbs (comDen (frV y.1 y.2))) ∧ rawN (frV v.1 v.2) = rawN (frV y.1 y.2)) = sb := norm_dec _ _ sb HSB.out
 obtain ⟨X, hX⟩ : ∃ X, frV v.1 v.2 = X := ⟨_, rfl⟩
 obtain ⟨Y, hY⟩ : ∃ X, frV y.1 y.2 = X := ⟨_, rfl⟩
 rw [hX, hY] at hsd
 have HSD := Lib.hid hsd
 have HX := Lib.hid hX
 have HY := Lib.hid hY
 clear hX hY hsd HSB
 subst hs2
 subst hb
 have ua := HA.out.ext hE0
 have ub := HB.out.ext hE0
 clear HA HB
 skip
 skip
 replace ua_0 := ua.cell (i := 0) rfl
 replace ua_1 := ua.cell (i := 1) rfl
 replace ua_2 := ua.cell (i := 2) rfl
 replace ub_0 := ub.cell (i := 0) rfl
 replace ub_1 := ub.cell (i := 1) rfl
 replace ub_2 := ub.cell (i := 2) rfl
 refine wp_region_noPanic ?_
 refine wp_region_held_drew (S := (fun w' => w'.cell? ⟨qa, 0, none⟩ = some (.bool bv) ∧ w'.cell? ⟨qa, 1, none⟩ = some (.slice av nv cv) ∧ w'.cell? ⟨qa, 2, none⟩ = some (.slice av2 nv2 cv2) ∧ w'.cell? ⟨qb, 0, none⟩ = some (.bool bw) ∧ w'.cell? ⟨qb, 1, none⟩ = some (.slice aw nw cw) ∧ w'.cell? ⟨qb, 2, none⟩ = some (.slice aw2 nw2 cw2))) (by as_aux_lemma => kernel_rfl) ⟨ua_0, ua_1, ua_2, ub_0, ub_1, ub_2⟩ (fun hHeld => ?_)
 refine takeY 0 108 hHeld ?_
 refine takeY 1 109 hHeld ?_
 refine takeY 2 110 hHeld ?_
 refine takeY 3 111 hHeld ?_
 refine takeY 4 112 hHeld ?_
 refine takeY 6 114 hHeld ?_
 refine stepD 5 rfl (by as_aux_lemma => kernel_rfl) (fun Kc hKc => ?_)
 refine Eq.mpr (if_pos (by as_aux_lemma => kernel_rfl)) ?_
 go_simp
 refine (r11VecNorm_any K (by omega) _ bv av av2 nv cv nv2 cv2 v.1 v.2 (HV.out.ext hE0).vec hv (by omega) X HX).mono ?_; rintro e v8 hr; obtain ⟨a7, n7, c7, a8, n8, c8, rfl, g7, g8, hE1⟩ := hr.raw; replace ua := ua.ext hE1; replace ua_0 := ua.cell (i := 0) rfl; replace ua_1 := ua.cell (i := 1) rfl; replace ua_2 := ua.cell (i := 2) rfl; replace ub := ub.ext hE1; replace ub_0 := ub.cell (i := 0) rfl; replace ub_1 := ub.cell (i := 1) rfl; replace ub_2 := ub.cell (i := 2) rfl; replace hE0 := Ext.trans hE0 hE1
 go_wp2_with fail
 refine hKc.out _ _ ⟨ua_0, ua_1, ua_2, ub_0, ub_1, ub_2⟩ (fun hHeld => ?_)
 clear hKc Kc
 try simp only [Act.put, List.setIfInBounds_toArray, List.set_cons_zero, List.set_cons_succ]
 refine stepD 7 rfl (by as_aux_lemma => kernel_rfl) (fun Kc hKc => ?_)
 refine Eq.mpr (if_pos (by as_aux_lemma => kernel_rfl)) ?_
 go_simp
 refine (r11VecNorm_any K (by omega) _ bw aw aw2 nw cw nw2 cw2 y.1 y.2 (HW.out.ext hE0).vec hw (by omega) Y HY).mono ?_; rintro e v8 hr; obtain ⟨a9, n9, c9, a10, n10, c10, rfl, g9, g10, hE1⟩ := hr.raw; replace ua := ua.ext hE1; replace ua_0 := ua.cell (i := 0) rfl; replace ua_1 := ua.cell (i := 1) rfl; replace ua_2 := ua.cell (i := 2) rfl; replace ub := ub.ext hE1; replace ub_0 := ub.cell (i := 0) rfl; replace ub_1 := ub.cell (i := 1) rfl; replace ub_2 := ub.cell (i := 2) rfl; replace g7 := g7.ext (Nat.le_refl _) hE1; replace g8 := g8.ext (Nat.le_refl _) hE1; replace hE0 := Ext.trans hE0 hE1
 go_wp2_with fail
 refine hKc.out _ _ ⟨ua_0, ua_1, ua_2, ub_0, ub_1, ub_2⟩ (fun hHeld => ?_)
 clear hKc Kc
 try simp only [Act.put, List.setIfInBounds_toArray, List.set_cons_zero, List.set_cons_succ]
 refine stepD 8 rfl (by as_aux_lemma => kernel_rfl) (fun Kc hKc => ?_)
 refine Eq.mpr (if_pos (by as_aux_lemma => kernel_rfl)) ?_
 go_simp
 refine (sameVec_any _ false false a7 a9 a8 a10 n7 c7 n9 c9 n8 c8 n10 c10 _ _ _ _ g7 g9 g8 g10 false HSD).mono ?_; rintro e v9 ⟨rfl, hE1⟩; clear g7 g8 g9 g10; replace ua := ua.ext hE1; replace ua_0 := ua.cell (i := 0) rfl; replace ua_1 := ua.cell (i := 1) rfl; replace ua_2 := ua.cell (i := 2) rfl; replace ub := ub.ext hE1; replace ub_0 := ub.cell (i := 0) rfl; replace ub_1 := ub.cell (i := 1) rfl; replace ub_2 := ub.cell (i := 2) rfl; replace hE0 := Ext.trans hE0 hE1
 go_wp2_with fail
 refine hKc.out _ _ ⟨ua_0, ua_1, ua_2, ub_0, ub_1, ub_2⟩ (fun hHeld => ?_)
 clear hKc Kc
 try simp only [Act.put, List.setIfInBounds_toArray, List.set_cons_zero, List.set_cons_succ]
 refine takeY 9 117 hHeld ?_
 refine takeY 10 118 hHeld ?_
 refine wpAnyH_done (by as_aux_lemma => kernel_rfl) ?_ _
 refine NoPanic.normal ?_
 exact hQ _ _ _ _ _ _ _ _ _ _ _ (Lib.hid hE0)
set_option maxRecDepth 1000000 in
set_option maxHeartbeats 40000000 in
theorem vec_r13 (K : Nat) (hK : 16 * K + 16777216 ≤ 549755813888) (w9 : World) (bv : Bool) (av av2 : Option Addr) (nv cv nv2 cv2 : Nat) (v : Int × List Int) (lv : Nt) (xv : List It) (HV : Hid (RawV K w9 bv av nv cv av2 nv2 cv2 v.1 v.2 lv xv)) (bw : Bool) (aw aw2 : Option Addr) (nw cw nw2 cw2 : Nat) (y : Int × List Int) (lw : Nt) (xw : List It) (HW : Hid (RawV K w9 bw aw nw cw aw2 nw2 cw2 y.1 y.2 lw xw)) (hnv2 : nv2 ≤ 1048576) (hnw2 : nw2 ≤ 1048576) (s2 : Int) (sb : Bool) (hs2 : s2 = 0) (hv : v.1 ≠ 0) (hw : y.1 ≠ 0) (HSB : Hid (sb = true ↔ frV v.1 v.2 = frV y.1 y.2)) (qa qb : Nat) (HA : Hid (Blk w9 qa 32 #[.bool bv, .slice av nv cv, .slice av2 nv2 cv2])) (HB : Hid (Blk w9 qb 32 #[.bool bw, .slice aw nw cw, .slice aw2 nw2 cw2]))
  (x0 x1 x2 x3 x4 x5 x6 x9 x10 x11 x14 x15 x16 x17 x18 x19 x20 x21 x22 x23 x24 x25 x26 x27 x28 x29 x30 x31 x32 x33 x34 x35 x36 x37 x38 x39 x40 x41 x42 x43 x44 x45 x46 x47 x48 x49 x50 x51 x52 x53 x54 x55 x56 x57 x58 x59 x60 x61 x62 x63 x64 x65 x66 x67 x68 x69 x70 x71 x72 x73 x74 x75 x76 x77 x78 x79 x80 x81 x82 x83 x84 x85 x86 x87 x88 x89 x90 x91 x92 x93 x94 x95 x96 x97 x98 x99 x100 x101 x102 x103 x104 x105 x106 x107 x108 x109 x110 x111 x112 x113 x114 x115 x116 x117 x118 x119 x120 x121 x122 x123 x124 x125 x126 x127 x128 x129 x130 x131 x132 x133 x134 x135 x136 x137 x138 x139 x140 x141 x142 x143 x144 x145 x146 x147 x148 x149 x150 x151 x152 x153 x154 x155 x156 x157 x158 x159 x160 x161 x162 x163 x164 x165 x166 x167 x168 x169 x170 x171 x172 x173 x174 x175 x176 x177 x178 x179 x180 x181 x182 x183 x184 x185 x186 x187 x188 x189 x190 x191 x192 x193 x194 x195 x196 x197 x198 x199 x200 x201 : Value) (Q : Exit → Act → World → Prop) (hQ : ∀ (v108 v109 v110 v111 v112 v113 v114 v115 v116 v117 : Value) (w' : World), Hid (Ext w9 w') → Q .normal { tmps := #[x0, x1, x2, x3, x4, x5, x6, .pointer (some ⟨qa, 0, none⟩), .pointer (some ⟨qb, 0, none⟩), x9, x10, x11, .bool sb, .int .i64 s2, x14, x15, x16, x17, x18, x19, x20, x21, x22, x23, x24, x25, x26, x27, x28, x29, x30, x31, x32, x33, x34, x35, x36, x37, x38, x39, x40, x41, x42, x43, x44, x45, x46, x47, x48, x49, x50, x51, x52, x53, x54, x55, x56, x57, x58, x59, x60, x61, x62, x63, x64, x65, x66, x67, x68, x69, x70, x71, x72, x73, x74, x75, x76, x77, x78, x79, x80, x81, x82, x83, x84, x85, x86, x87, x88, x89, x90, x91, x92, x93, x94, x95, x96, x97, x98, x99, x100, x101, x102, x103, x104, x105, x106, x107, v108, v109, v110, v111, v112, v113, v114, v115, v116, v117, .bool false, x119, x120, x121, x122, x123, x124, x125, x126, x127, x128, x129, x130, x131, x132, x133, x134, x135, x136, x137, x138, x139, x140, x141, x142, x143, x144, x145, x146, x147, x148, x149, x150, x151, x152, x153, x154, x155, x156, x157, x158, x159, x160, x161, x162, x163, x164, x165, x166, x167, x168, x169, x170, x171, x172, x173, x174, x175, x176, x177, x178, x179, x180, x181, x182, x183, x184, x185, x186, x187, x188, x189, x190, x191, x192, x193, x194, x195, x196, x197, x198, x199, x200, x201], defers := [] } w') :
  Code.wp Tryz.prog (vecReg 13) Q { tmps := #[x0, x1, x2, x3, x4, x5, x6, .pointer (some ⟨qa, 0, none⟩), .pointer (some ⟨qb, 0, none⟩), x9, x10, x11, .bool sb, .int .i64 s2, x14, x15, x16, x17, x18, x19, x20, x21, x22, x23, x24, x25, x26, x27, x28, x29, x30, x31, x32, x33, x34, x35, x36, x37, x38, x39, x40, x41, x42, x43, x44, x45, x46, x47, x48, x49, x50, x51, x52, x53, x54, x55, x56, x57, x58, x59, x60, x61, x62, x63, x64, x65, x66, x67, x68, x69, x70, x71, x72, x73, x74, x75, x76, x77, x78, x79, x80, x81, x82, x83, x84, x85, x86, x87, x88, x89, x90, x91, x92, x93, x94, x95, x96, x97, x98, x99, x100, x101, x102, x103, x104, x105, x106, x107, x108, x109, x110, x111, x112, x113, x114, x115, x116, x117, x118, x119, x120, x121, x122, x123, x124, x125, x126, x127, x128, x129, x130, x131, x132, x133, x134, x135, x136, x137, x138, x139, x140, x141, x142, x143, x144, x145, x146, x147, x148, x149, x150, x151, x152, x153, x154, x155, x156, x157, x158, x159, x160, x161, x162, x163, x164, x165, x166, x167, x168, x169, x170, x171, x172, x173, x174, x175, x176, x177, x178, x179, x180, x181, x182, x183, x184, x185, x186, x187, x188, x189, x190, x191, x192, x193, x194, x195, x196, x197, x198, x199, x200, x201], defers := [] } w9 := by
 rcases Bool.eq_false_or_eq_true sb with hb | hb
 ·exact vec_r13_1 K hK w9 bv av av2 nv cv nv2 cv2 v lv xv HV bw aw aw2 nw cw nw2 cw2 y lw xw HW hnv2 hnw2 s2 sb hs2 hv hw HSB qa qb HA HB x0 x1 x2 x3 x4 x5 x6 x9 x10 x11 x14 x15 x16 x17 x18 x19 x20 x21 x22 x23 x24 x25 x26 x27 x28 x29 x30 x31 x32 x33 x34 x35 x36 x37 x38 x39 x40 x41 x42 x43 x44 x45 x46 x47 x48 x49 x50 x51 x52 x53 x54 x55 x56 x57 x58 x59 x60 x61 x62 x63 x64 x65 x66 x67 x68 x69 x70 x71 x72 x73 x74 x75 x76 x77 x78 x79 x80 x81 x82 x83 x84 x85 x86 x87 x88 x89 x90 x91 x92 x93 x94 x95 x96 x97 x98 x99 x100 x101 x102 x103 x104 x105 x106 x107 x108 x109 x110 x111 x112 x113 x114 x115 x116 x117 x118 x119 x120 x121 x122 x123 x124 x125 x126 x127 x128 x129 x130 x131 x132 x133 x134 x135 x136 x137 x138 x139 x140 x141 x142 x143 x144 x145 x146 x147 x148 x149 x150 x151 x152 x153 x154 x155 x156 x157 x158 x159 x160 x161 x162 x163 x164 x165 x166 x167 x168 x169 x170 x171 x172 x173 x174 x175 x176 x177 x178 x179 x180 x181 x182 x183 x184 x185 x186 x187 x188 x189 x190 x191 x192 x193 x194 x195 x196 x197 x198 x199 x200 x201 Q hQ hb
 ·exact vec_r13_2 K hK w9 bv av av2 nv cv nv2 cv2 v lv xv HV bw aw aw2 nw cw nw2 cw2 y lw xw HW hnv2 hnw2 s2 sb hs2 hv hw HSB qa qb HA HB x0 x1 x2 x3 x4 x5 x6 x9 x10 x11 x14 x15 x16 x17 x18 x19 x20 x21 x22 x23 x24 x25 x26 x27 x28 x29 x30 x31 x32 x33 x34 x35 x36 x37 x38 x39 x40 x41 x42 x43 x44 x45 x46 x47 x48 x49 x50 x51 x52 x53 x54 x55 x56 x57 x58 x59 x60 x61 x62 x63 x64 x65 x66 x67 x68 x69 x70 x71 x72 x73 x74 x75 x76 x77 x78 x79 x80 x81 x82 x83 x84 x85 x86 x87 x88 x89 x90 x91 x92 x93 x94 x95 x96 x97 x98 x99 x100 x101 x102 x103 x104 x105 x106 x107 x108 x109 x110 x111 x112 x113 x114 x115 x116 x117 x118 x119 x120 x121 x122 x123 x124 x125 x126 x127 x128 x129 x130 x131 x132 x133 x134 x135 x136 x137 x138 x139 x140 x141 x142 x143 x144 x145 x146 x147 x148 x149 x150 x151 x152 x153 x154 x155 x156 x157 x158 x159 x160 x161 x162 x163 x164 x165 x166 x167 x168 x169 x170 x171 x172 x173 x174 x175 x176 x177 x178 x179 x180 x181 x182 x183 x184 x185 x186 x187 x188 x189 x190 x191 x192 x193 x194 x195 x196 x197 x198 x199 x200 x201 Q hQ hb
set_option maxRecDepth 1000000 in
set_option maxHeartbeats 40000000 in
theorem vec_r15 (K : Nat) (hK : 16 * K + 16777216 ≤ 549755813888) (w w9 : World) (bv : Bool) (av av2 : Option Addr) (nv cv nv2 cv2 : Nat) (v : Int × List Int) (lv : Nt) (xv : List It) (HV : Hid (RawV K w9 bv av nv cv av2 nv2 cv2 v.1 v.2 lv xv)) (bw : Bool) (aw aw2 : Option Addr) (nw cw nw2 cw2 : Nat) (y : Int × List Int) (lw : Nt) (xw : List It) (HW : Hid (RawV K w9 bw aw nw cw aw2 nw2 cw2 y.1 y.2 lw xw)) (hnv2 : nv2 ≤ 1048576) (bx by1 : Bool) (ax ay : Option Addr) (nx cx ny cy : Nat) (q : Int × Int) (HQR : Hid ((rFr K).ok 0 w9 [.bool bx, .slice ax nx cx, .bool by1, .slice ay ny cy] q)) (bd : Bool) (ad ad2 : Option Addr) (nd cd nd2 cd2 : Nat) (s3 : Int) (hs3 : s3 = 0) (HS3 : Hid (vaddE v y q = s3)) (qs : List Rat) (HQS : Hid (vaddQ (frV v.1 v.2) (frV y.1 y.2) (frR q) = qs)) (HD : Hid (OkV w9 s3 bd ad nd cd ad2 nd2 cd2 qs)) (qa qb pd : Nat) (HA : Hid (Blk w9 qa 32 #[.bool bv, .slice av nv cv, .slice av2 nv2 cv2])) (HB : Hid (Blk w9 qb 32 #[.bool bw, .slice aw nw cw, .slice aw2 nw2 cw2])) (HC : Hid (Blk w9 pd 32 #[.bool bd, .slice ad nd cd, .slice ad2 nd2 cd2])) (HP2 : Hid (Blk w9 (w.heap.size + 1 + 1) 75 #[.bool bx, .slice ax nx cx, .bool by1, .slice ay ny cy]))
  (x0 x1 x2 x3 x4 x6 x9 x10 x11 x12 x13 x16 x17 x18 x19 x20 x21 x22 x23 x24 x25 x26 x27 x28 x29 x30 x31 x32 x33 x34 x35 x36 x37 x38 x39 x40 x41 x42 x43 x44 x45 x46 x47 x48 x49 x50 x51 x52 x53 x54 x55 x56 x57 x58 x59 x60 x61 x62 x63 x64 x65 x66 x67 x68 x69 x70 x71 x72 x73 x74 x75 x76 x77 x78 x79 x80 x81 x82 x83 x84 x85 x86 x87 x88 x89 x90 x91 x92 x93 x94 x95 x96 x97 x98 x99 x100 x101 x102 x103 x104 x105 x106 x107 x108 x109 x110 x111 x112 x113 x114 x115 x116 x117 x118 x119 x120 x121 x122 x123 x124 x125 x126 x127 x128 x129 x130 x131 x132 x133 x134 x135 x136 x137 x138 x139 x140 x141 x142 x143 x144 x145 x146 x147 x148 x149 x150 x151 x152 x153 x154 x155 x156 x157 x158 x159 x160 x161 x162 x163 x164 x165 x166 x167 x168 x169 x170 x171 x172 x173 x174 x175 x176 x177 x178 x179 x180 x181 x182 x183 x184 x185 x186 x187 x188 x189 x190 x191 x192 x193 x194 x195 x196 x197 x198 x199 x200 x201 : Value) (Q : Exit → Act → World → Prop) (hQ : ∀ (v119 v120 v121 v122 v123 v124 v125 v126 v127 v128 : Value) (w' : World), Hid (Ext w9 w') → Q .normal { tmps := #[x0, x1, x2, x3, x4, .pointer (some ⟨w.heap.size + 1 + 1, 0, none⟩), x6, .pointer (some ⟨qa, 0, none⟩), .pointer (some ⟨qb, 0, none⟩), x9, x10, x11, x12, x13, .pointer (some ⟨pd, 0, none⟩), .int .i64 s3, x16, x17, x18, x19, x20, x21, x22, x23, x24, x25, x26, x27, x28, x29, x30, x31, x32, x33, x34, x35, x36, x37, x38, x39, x40, x41, x42, x43, x44, x45, x46, x47, x48, x49, x50, x51, x52, x53, x54, x55, x56, x57, x58, x59, x60, x61, x62, x63, x64, x65, x66, x67, x68, x69, x70, x71, x72, x73, x74, x75, x76, x77, x78, x79, x80, x81, x82, x83, x84, x85, x86, x87, x88, x89, x90, x91, x92, x93, x94, x95, x96, x97, x98, x99, x100, x101, x102, x103, x104, x105, x106, x107, x108, x109, x110, x111, x112, x113, x114, x115, x116, x117, x118, v119, v120, v121, v122, v123, v124, v125, v126, v127, v128, .bool false, x130, x131, x132, x133, x134, x135, x136, x137, x138, x139, x140, x141, x142, x143, x144, x145, x146, x147, x148, x149, x150, x151, x152, x153, x154, x155, x156, x157, x158, x159, x160, x161, x162, x163, x164, x165, x166, x167, x168, x169, x170, x171, x172, x173, x174, x175, x176, x177, x178, x179, x180, x181, x182, x183, x184, x185, x186, x187, x188, x189, x190, x191, x192, x193, x194, x195, x196, x197, x198, x199, x200, x201], defers := [] } w') :
  Code.wp Tryz.prog (vecReg 15) Q { tmps := #[x0, x1, x2, x3, x4, .pointer (some ⟨w.heap.size + 1 + 1, 0, none⟩), x6, .pointer (some ⟨qa, 0, none⟩), .pointer (some ⟨qb, 0, none⟩), x9, x10, x11, x12, x13, .pointer (some ⟨pd, 0, none⟩), .int .i64 s3, x16, x17, x18, x19, x20, x21, x22, x23, x24, x25, x26, x27, x28, x29, x30, x31, x32, x33, x34, x35, x36, x37, x38, x39, x40, x41, x42, x43, x44, x45, x46, x47, x48, x49, x50, x51, x52, x53, x54, x55, x56, x57, x58, x59, x60, x61, x62, x63, x64, x65, x66, x67, x68, x69, x70, x71, x72, x73, x74, x75, x76, x77, x78, x79, x80, x81, x82, x83, x84, x85, x86, x87, x88, x89, x90, x91, x92, x93, x94, x95, x96, x97, x98, x99, x100, x101, x102, x103, x104, x105, x106, x107, x108, x109, x110, x111, x112, x113, x114, x115, x116, x117, x118, x119, x120, x121, x122, x123, x124, x125, x126, x127, x128, x129, x130, x131, x132, x133, x134, x135, x136, x137, x138, x139, x140, x141, x142, x143, x144, x145, x146, x147, x148, x149, x150, x151, x152, x153, x154, x155, x156, x157, x158, x159, x160, x161, x162, x163, x164, x165, x166, x167, x168, x169, x170, x171, x172, x173, x174, x175, x176, x177, x178, x179, x180, x181, x182, x183, x184, x185, x186, x187, x188, x189, x190, x191, x192, x193, x194, x195, x196, x197, x198, x199, x200, x201], defers := [] } w9 := by
 conv => arg 2; whnf
 have hE0 : Ext w9 w9.drew := (Below.refl _ _).drew
 obtain ⟨hv, hw, hq0, hlen⟩ := vaddE_zero (HS3.out.trans hs3)
 have hnn : nv2 = nw2 := by rw [← HV.out.vec.len, ← HW.out.vec.len]; exact hlen
 subst hnn
 subst hs3
 obtain ⟨_, _, _, _, _, _, _, _, hcs, lq, lq2, hq1, hq2, hq3, hq4, hq5, hq6⟩ := HQR.out
 cases hcs
 have HRS : Hid (RatS K w9 bx ax nx cx by1 ay ny cy (frR q)) := Lib.hid ⟨lq, lq2, hq1, hq2, by rw [hq4]; exact hq0, by rw [hq3, hq4]; rfl, hq5, hq6⟩
 clear hq1 hq2 hq3 hq4 hq5 hq6 hq0 hlen
 obtain ⟨rfl, hn1, hn2⟩ := HD.out.1 rfl
 replace hn1 := hn1.ext (Nat.le_refl _) hE0
 replace hn2 := hn2.ext (Nat.le_refl _) hE0
 have ua := HA.out.ext hE0
 have ub := HB.out.ext hE0
 have ud := HC.out.ext hE0
 have p2 := HP2.out.ext hE0
 clear HA HB HC HP2
 skip
 skip
 skip
 skip
 replace ua_0 := ua.cell (i := 0) rfl
 replace ua_1 := ua.cell (i := 1) rfl
 replace ua_2 := ua.cell (i := 2) rfl
 replace ub_0 := ub.cell (i := 0) rfl
 replace ub_1 := ub.cell (i := 1) rfl
 replace ub_2 := ub.cell (i := 2) rfl
 replace ud_0 := ud.cell (i := 0) rfl
 replace ud_1 := ud.cell (i := 1) rfl
 replace ud_2 := ud.cell (i := 2) rfl
 replace p2_0 := p2.cell (i := 0) rfl
 replace p2_1 := p2.cell (i := 1) rfl
 replace p2_2 := p2.cell (i := 2) rfl
 replace p2_3 := p2.cell (i := 3) rfl
 refine wp_region_noPanic ?_
 refine wp_region_held_drew (S := (fun w' => w'.cell? ⟨qa, 0, none⟩ = some (.bool bv) ∧ w'.cell? ⟨qa, 1, none⟩ = some (.slice av nv cv) ∧ w'.cell? ⟨qa, 2, none⟩ = some (.slice av2 nv2 cv2) ∧ w'.cell? ⟨qb, 0, none⟩ = some (.bool bw) ∧ w'.cell? ⟨qb, 1, none⟩ = some (.slice aw nw cw) ∧ w'.cell? ⟨qb, 2, none⟩ = some (.slice aw2 nv2 cw2) ∧ w'.cell? ⟨pd, 0, none⟩ = some (.bool false) ∧ w'.cell? ⟨pd, 1, none⟩ = some (.slice ad nd cd) ∧ w'.cell? ⟨pd, 2, none⟩ = some (.slice ad2 nd2 cd2) ∧ w'.cell? ⟨w.heap.size + 1 + 1, 0, none⟩ = some (.bool bx) ∧ w'.cell? ⟨w.heap.size + 1 + 1, 1, none⟩ = some (.slice ax nx cx) ∧ w'.cell? ⟨w.heap.size + 1 + 1, 2, none⟩ = some (.bool by1) ∧ w'.cell? ⟨w.heap.size + 1 + 1, 3, none⟩ = some (.slice ay ny cy))) (by as_aux_lemma => kernel_rfl) ⟨ua_0, ua_1, ua_2, ub_0, ub_1, ub_2, ud_0, ud_1, ud_2, p2_0, p2_1, p2_2, p2_3⟩ (fun hHeld => ?_)
 refine takeY 0 119 hHeld ?_
 refine takeY 1 120 hHeld ?_
 refine takeY 2 121 hHeld ?_
 refine takeY 3 122 hHeld ?_
 refine takeY 4 123 hHeld ?_
 refine takeY 5 124 hHeld ?_
 refine takeY 6 125 hHeld ?_
 refine stepD 7 rfl (by as_aux_lemma => kernel_rfl) (fun Kc hKc => ?_)
 refine Eq.mpr (if_pos (by as_aux_lemma => kernel_rfl)) ?_
 go_simp
 refine (r11VecAdd_any K (by omega) _ bv av av2 nv cv nv2 cv2 v.1 v.2 (HV.out.ext hE0).vec bw aw aw2 nw cw cw2 y.1 y.2 (HW.out.ext hE0).vec hv hw bx by1 ax ay nx cx ny cy (frR q) (HRS.out.ext hE0) (by omega) qs HQS).mono ?_; rintro e v8 hr; obtain ⟨a7, n7, c7, a8, n8, c8, rfl, g7, g8, hE1⟩ := hr.raw; replace p2 := p2.ext hE1; replace p2_0 := p2.cell (i := 0) rfl; replace p2_1 := p2.cell (i := 1) rfl; replace p2_2 := p2.cell (i := 2) rfl; replace p2_3 := p2.cell (i := 3) rfl; replace ua := ua.ext hE1; replace ua_0 := ua.cell (i := 0) rfl; replace ua_1 := ua.cell (i := 1) rfl; replace ua_2 := ua.cell (i := 2) rfl; replace ub := ub.ext hE1; replace ub_0 := ub.cell (i := 0) rfl; replace ub_1 := ub.cell (i := 1) rfl; replace ub_2 := ub.cell (i := 2) rfl; replace ud := ud.ext hE1; replace ud_0 := ud.cell (i := 0) rfl; replace ud_1 := ud.cell (i := 1) rfl; replace ud_2 := ud.cell (i := 2) rfl; replace hn1 := hn1.ext (Nat.le_refl _) hE1; replace hn2 := hn2.ext (Nat.le_refl _) hE1; replace hE0 := Ext.trans hE0 hE1
 go_wp2_with fail
 refine hKc.out _ _ ⟨ua_0, ua_1, ua_2, ub_0, ub_1, ub_2, ud_0, ud_1, ud_2, p2_0, p2_1, p2_2, p2_3⟩ (fun hHeld => ?_)
 clear hKc Kc
 try simp only [Act.put, List.setIfInBounds_toArray, List.set_cons_zero, List.set_cons_succ]
 refine stepD 8 rfl (by as_aux_lemma => kernel_rfl) (fun Kc hKc => ?_)
 refine Eq.mpr (if_pos (by as_aux_lemma => kernel_rfl)) ?_
 go_simp
 refine (sameVec_yes _ false ad a7 ad2 a8 nd cd n7 c7 nd2 cd2 n8 c8 _ _ hn1 g7 hn2 g8).mono ?_; rintro e v9 ⟨rfl, hE1⟩; clear hn1 hn2 g7 g8; replace p2 := p2.ext hE1; replace p2_0 := p2.cell (i := 0) rfl; replace p2_1 := p2.cell (i := 1) rfl; replace p2_2 := p2.cell (i := 2) rfl; replace p2_3 := p2.cell (i := 3) rfl; replace ua := ua.ext hE1; replace ua_0 := ua.cell (i := 0) rfl; replace ua_1 := ua.cell (i := 1) rfl; replace ua_2 := ua.cell (i := 2) rfl; replace ub := ub.ext hE1; replace ub_0 := ub.cell (i := 0) rfl; replace ub_1 := ub.cell (i := 1) rfl; replace ub_2 := ub.cell (i := 2) rfl; replace ud := ud.ext hE1; replace ud_0 := ud.cell (i := 0) rfl; replace ud_1 := ud.cell (i := 1) rfl; replace ud_2 := ud.cell (i := 2) rfl; replace hE0 := Ext.trans hE0 hE1
 go_wp2_with fail
 refine hKc.out _ _ ⟨ua_0, ua_1, ua_2, ub_0, ub_1, ub_2, ud_0, ud_1, ud_2, p2_0, p2_1, p2_2, p2_3⟩ (fun hHeld => ?_)
 clear hKc Kc
 try simp only [Act.put, List.setIfInBounds_toArray, List.set_cons_zero, List.set_cons_succ]
 refine takeY 9 128 hHeld ?_
 refine takeY 10 129 hHeld ?_
 refine wpAnyH_done (by as_aux_lemma => kernel_rfl) ?_ _
 refine NoPanic.normal ?_
 exact hQ _ _ _ _ _ _ _ _ _ _ _ (Lib.hid hE0)
set_option maxRecDepth 1000000 in
set_option maxHeartbeats 40000000 in
theorem vec_r31 (K : Nat) (hK : 16 * K + 16777216 ≤ 549755813888) (w w9 : World) (b : Bool) (a a2 : Option Addr) (n c n2 c2 : Nat) (x : Int × List (List Int)) (HX : Hid (MatS K w9 b a n c a2 n2 c2 x.1 x.2)) (hn2 : n2 ≤ 1048576) (bv : Bool) (av av2 : Option Addr) (nv cv nv2 cv2 : Nat) (v : Int × List Int) (lv : Nt) (xv : List It) (HV : Hid (RawV K w9 bv av nv cv av2 nv2 cv2 v.1 v.2 lv xv)) (hnv2 : nv2 ≤ 1048576) (bh : Bool) (ah ah2 : Option Addr) (nh ch nh2 ch2 : Nat) (s4 : Int) (hs4 : s4 = 0) (HS4 : Hid (applyE x v = s4)) (qp : List Rat) (HQP : Hid (applyQ (fracs x.1 x.2) (frV v.1 v.2) n2 nv2 = qp)) (HH : Hid (OkV w9 s4 bh ah nh ch ah2 nh2 ch2 qp)) (qa ph : Nat) (HA : Hid (Blk w9 qa 32 #[.bool bv, .slice av nv cv, .slice av2 nv2 cv2])) (HC : Hid (Blk w9 ph 32 #[.bool bh, .slice ah nh ch, .slice ah2 nh2 ch2])) (HP0 : Hid (Blk w9 w.heap.size 28 #[.bool b, .slice a n c, .slice a2 n2 c2]))
  (x0 x1 x2 x4 x5 x6 x8 x9 x10 x11 x12 x13 x14 x15 x18 x19 x20 x21 x22 x23 x24 x25 x26 x27 x28 x29 x30 x31 x32 x33 x34 x35 x36 x37 x38 x39 x40 x41 x42 x43 x44 x45 x46 x47 x48 x49 x50 x51 x52 x53 x54 x55 x56 x57 x58 x59 x60 x61 x62 x63 x64 x65 x66 x67 x68 x69 x70 x71 x72 x73 x74 x75 x76 x77 x78 x79 x80 x81 x82 x83 x84 x85 x86 x87 x88 x89 x90 x91 x92 x93 x94 x95 x96 x97 x98 x99 x100 x101 x102 x103 x104 x105 x106 x107 x108 x109 x110 x111 x112 x113 x114 x115 x116 x117 x118 x119 x120 x121 x122 x123 x124 x125 x126 x127 x128 x129 x130 x131 x132 x133 x134 x135 x136 x137 x138 x139 x140 x141 x142 x143 x144 x145 x146 x147 x148 x149 x150 x151 x152 x153 x154 x155 x156 x157 x158 x159 x160 x161 x162 x163 x164 x165 x166 x167 x168 x169 x170 x171 x172 x173 x174 x175 x176 x177 x178 x179 x180 x181 x182 x183 x184 x185 x186 x187 x188 x189 x190 x191 x192 x193 x194 x195 x196 x197 x198 x199 x200 x201 : Value) (Q : Exit → Act → World → Prop) (hQ : ∀ (v190 v191 v192 v193 v194 v195 v196 v197 v198 v199 v200 v201 : Value) (w' : World), Hid (Ext w9 w') → Q .normal { tmps := #[x0, x1, x2, .pointer (some ⟨w.heap.size, 0, none⟩), x4, x5, .bool true, .pointer (some ⟨qa, 0, none⟩), x8, x9, x10, x11, x12, x13, x14, x15, .pointer (some ⟨ph, 0, none⟩), .int .i64 s4, x18, x19, x20, x21, x22, x23, x24, x25, x26, x27, x28, x29, x30, x31, x32, x33, x34, x35, x36, x37, x38, x39, x40, x41, x42, x43, x44, x45, x46, x47, x48, x49, x50, x51, x52, x53, x54, x55, x56, x57, x58, x59, x60, x61, x62, x63, x64, x65, x66, x67, x68, x69, x70, x71, x72, x73, x74, x75, x76, x77, x78, x79, x80, x81, x82, x83, x84, x85, x86, x87, x88, x89, x90, x91, x92, x93, x94, x95, x96, x97, x98, x99, x100, x101, x102, x103, x104, x105, x106, x107, x108, x109, x110, x111, x112, x113, x114, x115, x116, x117, x118, x119, x120, x121, x122, x123, x124, x125, x126, x127, x128, x129, x130, x131, x132, x133, x134, x135, x136, x137, x138, x139, x140, x141, x142, x143, x144, x145, x146, x147, x148, x149, x150, x151, x152, x153, x154, x155, x156, x157, x158, x159, x160, x161, x162, x163, x164, x165, x166, x167, x168, x169, x170, x171, x172, x173, x174, x175, x176, x177, x178, x179, x180, x181, x182, x183, x184, x185, x186, x187, x188, x189, v190, v191, v192, v193, v194, v195, v196, v197, v198, v199, v200, v201], defers := [] } w') :
  Code.wp Tryz.prog (vecReg 31) Q { tmps := #[x0, x1, x2, .pointer (some ⟨w.heap.size, 0, none⟩), x4, x5, x6, .pointer (some ⟨qa, 0, none⟩), x8, x9, x10, x11, x12, x13, x14, x15, .pointer (some ⟨ph, 0, none⟩), .int .i64 s4, x18, x19, x20, x21, x22, x23, x24, x25, x26, x27, x28, x29, x30, x31, x32, x33, x34, x35, x36, x37, x38, x39, x40, x41, x42, x43, x44, x45, x46, x47, x48, x49, x50, x51, x52, x53, x54, x55, x56, x57, x58, x59, x60, x61, x62, x63, x64, x65, x66, x67, x68, x69, x70, x71, x72, x73, x74, x75, x76, x77, x78, x79, x80, x81, x82, x83, x84, x85, x86, x87, x88, x89, x90, x91, x92, x93, x94, x95, x96, x97, x98, x99, x100, x101, x102, x103, x104, x105, x106, x107, x108, x109, x110, x111, x112, x113, x114, x115, x116, x117, x118, x119, x120, x121, x122, x123, x124, x125, x126, x127, x128, x129, x130, x131, x132, x133, x134, x135, x136, x137, x138, x139, x140, x141, x142, x143, x144, x145, x146, x147, x148, x149, x150, x151, x152, x153, x154, x155, x156, x157, x158, x159, x160, x161, x162, x163, x164, x165, x166, x167, x168, x169, x170, x171, x172, x173, x174, x175, x176, x177, x178, x179, x180, x181, x182, x183, x184, x185, x186, x187, x188, x189, x190, x191, x192, x193, x194, x195, x196, x197, x198, x199, x200, x201], defers := [] } w9 := by
 conv => arg 2; whnf
 have hE0 : Ext w9 w9.drew := (Below.refl _ _).drew
 obtain ⟨hc0, hv, hcol⟩ := applyE_zero (HS4.out.trans hs4)
 have hx := checkE_zero hc0
 have hlen := HV.out.vec.len
 have HROW : Hid (∀ zs ∈ x.2, zs.length = nv2) := Lib.hid (fun zs hz => by rw [← hlen, ← hcol]; exact even_len hx.2 zs hz)
 have hd0 := hx.1
 clear hx hcol hc0 hlen
 subst hs4
 obtain ⟨rfl, hn1, hn2'⟩ := HH.out.1 rfl
 replace hn1 := hn1.ext (Nat.le_refl _) hE0
 replace hn2' := hn2'.ext (Nat.le_refl _) hE0
 have ua := HA.out.ext hE0
 have uh := HC.out.ext hE0
 have p0 := HP0.out.ext hE0
 clear HA HC HP0
 skip
 skip
 skip
 replace ua_0 := ua.cell (i := 0) rfl
 replace ua_1 := ua.cell (i := 1) rfl
 replace ua_2 := ua.cell (i := 2) rfl
 replace uh_0 := uh.cell (i := 0) rfl
 replace uh_1 := uh.cell (i := 1) rfl
 replace uh_2 := uh.cell (i := 2) rfl
 replace p0_0 := p0.cell (i := 0) rfl
 replace p0_1 := p0.cell (i := 1) rfl
 replace p0_2 := p0.cell (i := 2) rfl
 refine wp_region_noPanic ?_
 refine wp_region_held_drew (S := (fun w' => w'.cell? ⟨qa, 0, none⟩ = some (.bool bv) ∧ w'.cell? ⟨qa, 1, none⟩ = some (.slice av nv cv) ∧ w'.cell? ⟨qa, 2, none⟩ = some (.slice av2 nv2 cv2) ∧ w'.cell? ⟨ph, 0, none⟩ = some (.bool false) ∧ w'.cell? ⟨ph, 1, none⟩ = some (.slice ah nh ch) ∧ w'.cell? ⟨ph, 2, none⟩ = some (.slice ah2 nh2 ch2) ∧ w'.cell? ⟨w.heap.size, 0, none⟩ = some (.bool b) ∧ w'.cell? ⟨w.heap.size, 1, none⟩ = some (.slice a n c) ∧ w'.cell? ⟨w.heap.size, 2, none⟩ = some (.slice a2 n2 c2))) (by as_aux_lemma => kernel_rfl) ⟨ua_0, ua_1, ua_2, uh_0, uh_1, uh_2, p0_0, p0_1, p0_2⟩ (fun hHeld => ?_)
 refine takeY 0 190 hHeld ?_
 refine takeY 1 191 hHeld ?_
 refine takeY 2 192 hHeld ?_
 refine takeY 3 193 hHeld ?_
 refine takeY 4 194 hHeld ?_
 refine takeY 5 195 hHeld ?_
 refine stepD 6 rfl (by as_aux_lemma => kernel_rfl) (fun Kc hKc => ?_)
 refine Eq.mpr (if_pos (by as_aux_lemma => kernel_rfl)) ?_
 go_simp
 refine (r11Apply_any K (by omega) _ b a a2 n c n2 c2 x.1 x.2 (HX.out.ext hE0) bv av av2 nv cv nv2 cv2 v.1 v.2 (HV.out.ext hE0).vec hd0 hv HROW hn2 hnv2 qp HQP).mono ?_; rintro e v8 hr; obtain ⟨a7, n7, c7, a8, n8, c8, rfl, g7, g8, hE1⟩ := hr.raw; replace p0 := p0.ext hE1; replace p0_0 := p0.cell (i := 0) rfl; replace p0_1 := p0.cell (i := 1) rfl; replace p0_2 := p0.cell (i := 2) rfl; replace ua := ua.ext hE1; replace ua_0 := ua.cell (i := 0) rfl; replace ua_1 := ua.cell (i := 1) rfl; replace ua_2 := ua.cell (i := 2) rfl; replace uh := uh.ext hE1; replace uh_0 := uh.cell (i := 0) rfl; replace uh_1 := uh.cell (i := 1) rfl; replace uh_2 := uh.cell (i := 2) rfl; replace hn1 := hn1.ext (Nat.le_refl _) hE1; replace hn2' := hn2'.ext (Nat.le_refl _) hE1; replace hE0 := Ext.trans hE0 hE1
 go_wp2_with fail
 refine hKc.out _ _ ⟨ua_0, ua_1, ua_2, uh_0, uh_1, uh_2, p0_0, p0_1, p0_2⟩ (fun hHeld => ?_)
 clear hKc Kc
 try simp only [Act.put, List.setIfInBounds_toArray, List.set_cons_zero, List.set_cons_succ]
 refine stepD 7 rfl (by as_aux_lemma => kernel_rfl) (fun Kc hKc => ?_)
 refine Eq.mpr (if_pos (by as_aux_lemma => kernel_rfl)) ?_
 go_simp
 refine (sameVec_yes _ false ah a7 ah2 a8 nh ch n7 c7 nh2 ch2 n8 c8 _ _ hn1 g7 hn2' g8).mono ?_; rintro e v9 ⟨rfl, hE1⟩; clear hn1 hn2' g7 g8; replace p0 := p0.ext hE1; replace p0_0 := p0.cell (i := 0) rfl; replace p0_1 := p0.cell (i := 1) rfl; replace p0_2 := p0.cell (i := 2) rfl; replace ua := ua.ext hE1; replace ua_0 := ua.cell (i := 0) rfl; replace ua_1 := ua.cell (i := 1) rfl; replace ua_2 := ua.cell (i := 2) rfl; replace uh := uh.ext hE1; replace uh_0 := uh.cell (i := 0) rfl; replace uh_1 := uh.cell (i := 1) rfl; replace uh_2 := uh.cell (i := 2) rfl; replace hE0 := Ext.trans hE0 hE1
 go_wp2_with fail
 refine hKc.out _ _ ⟨ua_0, ua_1, ua_2, uh_0, uh_1, uh_2, p0_0, p0_1, p0_2⟩ (fun hHeld => ?_)
 clear hKc Kc
 try simp only [Act.put, List.setIfInBounds_toArray, List.set_cons_zero, List.set_cons_succ]
 refine takeY 8 198 hHeld ?_
 refine takeY 9 199 hHeld ?_
 refine stepD 10 rfl (by as_aux_lemma => kernel_rfl) (fun Kc hKc => ?_)
 refine Eq.mpr (if_pos (by as_aux_lemma => kernel_rfl)) ?_
 go_simp
 refine (lives_yes _).mono ?_; rintro e v9 ⟨rfl, hE1⟩; replace p0 := p0.ext hE1; replace p0_0 := p0.cell (i := 0) rfl; replace p0_1 := p0.cell (i := 1) rfl; replace p0_2 := p0.cell (i := 2) rfl; replace ua := ua.ext hE1; replace ua_0 := ua.cell (i := 0) rfl; replace ua_1 := ua.cell (i := 1) rfl; replace ua_2 := ua.cell (i := 2) rfl; replace uh := uh.ext hE1; replace uh_0 := uh.cell (i := 0) rfl; replace uh_1 := uh.cell (i := 1) rfl; replace uh_2 := uh.cell (i := 2) rfl; replace hE0 := Ext.trans hE0 hE1
 go_wp2_with fail
 refine hKc.out _ _ ⟨ua_0, ua_1, ua_2, uh_0, uh_1, uh_2, p0_0, p0_1, p0_2⟩ (fun hHeld => ?_)
 clear hKc Kc
 try simp only [Act.put, List.setIfInBounds_toArray, List.set_cons_zero, List.set_cons_succ]
 refine takeY 11 201 hHeld ?_
 refine takeY 12 6 hHeld ?_
 refine wpAnyH_done (by as_aux_lemma => kernel_rfl) ?_ _
 refine NoPanic.normal ?_
 exact hQ _ _ _ _ _ _ _ _ _ _ _ _ _ (Lib.hid hE0)
end Go.Proofs.YtbhenelehhiakaaGreat
namespace Go.Proofs.YtbhenelehhiakaaGreat
open Go.RowKit
set_option maxRecDepth 100000 in
set_option maxHeartbeats 40000000 in
theorem vec_walk (K : Nat) (hK : 16 * K + 16777216 ≤ 549755813888) (w : World) (b : Bool) (a a2 : Option Addr) (n c n2 c2 : Nat) (x : Int × List (List Int)) (h : MatS K w b a n c a2 n2 c2 x.1 x.2) (bv : Bool) (av av2 : Option Addr) (nv cv nv2 cv2 : Nat) (v : Int × List Int) (hv : VecS K w bv av nv cv av2 nv2 cv2 v.1 v.2) (bw : Bool) (aw aw2 : Option Addr) (nw cw nw2 cw2 : Nat) (y : Int × List Int) (hw : VecS K w bw aw nw cw aw2 nw2 cw2 y.1 y.2) (bx by1 : Bool) (ax ay : Option Addr) (nx cx ny cy : Nat) (q : Int × Int) (hqr : (rFr K).ok 0 w [.bool bx, .slice ax nx cx, .bool by1, .slice ay ny cy] q) (hrx : Hid (∀ zs ∈ x.2, zs.length ≤ 1048576)) (hn2 : n2 ≤ 1048576) (hnv2 : nv2 ≤ 1048576) (hnw2 : nw2 ≤ 1048576) :
  Calls Tryz.prog 7 #[.agg #[.bool b, .slice a n c, .slice a2 n2 c2], .agg #[.bool bv, .slice av nv cv, .slice av2 nv2 cv2, .bool bw, .slice aw nw cw, .slice aw2 nw2 cw2], .agg #[.bool bx, .slice ax nx cx, .bool by1, .slice ay ny cy]] w (Yes w) := by
 obtain ⟨lv, xv, hvr⟩ := hv.raw
 obtain ⟨lw, xw, hwr⟩ := hw.raw
 have HV := Lib.hid hvr
 have HW := Lib.hid hwr
 have hlv := hv.len
 have hlw := hw.len
 obtain ⟨mx, hmx⟩ : ∃ m, colsOf x.2 = m := ⟨_, rfl⟩
 obtain ⟨s1, hs1⟩ : ∃ s, normVE v = s := ⟨_, rfl⟩
 obtain ⟨s2, hs2⟩ : ∃ s, vecsE [v, y] = s := ⟨_, rfl⟩
 obtain ⟨s3, hs3⟩ : ∃ s, vaddE v y q = s := ⟨_, rfl⟩
 obtain ⟨s4, hs4⟩ : ∃ s, applyE x v = s := ⟨_, rfl⟩
 obtain ⟨s5, hs5⟩ : ∃ s, checkE x.1 x.2 = s := ⟨_, rfl⟩
 obtain ⟨sb, hsb⟩ : ∃ sb : Bool, (sb = true ↔ s2 = 0 ∧ frV v.1 v.2 = frV y.1 y.2) := ⟨decide (s2 = 0 ∧ frV v.1 v.2 = frV y.1 y.2), by simp⟩
 obtain ⟨qn, hqn⟩ : ∃ t, frV v.1 v.2 = t := ⟨_, rfl⟩
 obtain ⟨qs, hqs⟩ : ∃ t, vaddQ (frV v.1 v.2) (frV y.1 y.2) (frR q) = t := ⟨_, rfl⟩
 obtain ⟨qp, hqp⟩ : ∃ t, applyQ (fracs x.1 x.2) (frV v.1 v.2) n2 nv2 = t := ⟨_, rfl⟩
 obtain ⟨vm, hvm⟩ : ∃ t, decide (v.1 ≠ 0) = t := ⟨_, rfl⟩
 obtain ⟨wm, hwm⟩ : ∃ t, decide (y.1 ≠ 0) = t := ⟨_, rfl⟩
 obtain ⟨s6, hs6⟩ : ∃ t, (if s5 = 0 ∧ v.1 = 0 then 6 else s5) = t := ⟨_, rfl⟩
 have HC4 : Hid (s4 = if s6 = 0 ∧ ¬ mx = nv2 then 2 else s6) := Lib.hid (by
  rw [← hs4, ← hs6, ← hs5, ← hmx, ← hlv]
  unfold applyE
  by_cases g : checkE x.1 x.2 = 0 <;> by_cases g2 : v.1 = 0 <;> by_cases g3 : colsOf x.2 = v.2.length <;> simp [g, g2, g3])
 have HBAD : Hid (¬ (v.1 ≠ 0 ∧ y.1 ≠ 0) → s2 = 6 ∧ s3 = 6) := Lib.hid (fun hn => by
  have e2 : vecsE [v, y] = 6 := by
   unfold vecsE
   by_cases g : v.1 = 0
   ·rw [if_pos g]
   ·rw [if_neg g]; unfold vecsE; rw [if_pos (by by_cases g2 : y.1 = 0; exact g2; exact absurd ⟨g, g2⟩ hn)]
  refine ⟨hs2.symm.trans e2, ?_⟩
  rw [← hs3]
  unfold vaddE
  rw [e2, if_pos (by decide)])
 have HGOOD : Hid (v.1 ≠ 0 → y.1 ≠ 0 → s2 = 0 ∧ s3 = if q.2 = 0 then 6 else if nv2 ≠ nw2 then 2 else 0) := Lib.hid (fun g g2 => by
  have e2 : vecsE [v, y] = 0 := by
   unfold vecsE
   rw [if_neg g]
   unfold vecsE
   rw [if_neg g2]
   rfl
  refine ⟨hs2.symm.trans e2, ?_⟩
  rw [← hs3]
  unfold vaddE
  rw [e2, if_neg (by decide), hlv, hlw])
 have HCX : Hid (colsOf x.2 ≤ 1048576) := Lib.hid (colsOf_le hrx.out)
 have HMX := Lib.hid hmx
 have HS1 := Lib.hid hs1
 have HS2 := Lib.hid hs2
 have HS3 := Lib.hid hs3
 have HS4 := Lib.hid hs4
 have HS5 := Lib.hid hs5
 have HS6 := Lib.hid hs6
 have HSB := Lib.hid hsb
 have HQN := Lib.hid hqn
 have HQS := Lib.hid hqs
 have HQP := Lib.hid hqp
 have HVM := Lib.hid hvm
 have HWM := Lib.hid hwm
 have HXM := Lib.hid h
 have HQR := Lib.hid hqr
 clear h hv hw hvr hwr hlv hlw hmx hs1 hs2 hs3 hs4 hs5 hs6 hsb hqn hqs hqp hvm hwm hqr
 go_enter Tryz.func7, Tryz.ntmps7
 go_upto_region 1 with (fail)
 have p0 := Blk.new w 28 #[.bool b, .slice a n c, .slice a2 n2 c2]
 have p1 := Blk.new (w.alloc (Obj.cells #[.bool b, .slice a n c, .slice a2 n2 c2] 28)) 80 #[.bool bv, .slice av nv cv, .slice av2 nv2 cv2, .bool bw, .slice aw nw cw, .slice aw2 nw2 cw2]
 replace p0 := p0.ext ((Below.refl _ _).alloc (Nat.le_refl _) (Obj.cells #[.bool bv, .slice av nv cv, .slice av2 nv2 cv2, .bool bw, .slice aw nw cw, .slice aw2 nw2 cw2] 80))
 have p2 := Blk.new ((w.alloc (Obj.cells #[.bool b, .slice a n c, .slice a2 n2 c2] 28)).alloc (Obj.cells #[.bool bv, .slice av nv cv, .slice av2 nv2 cv2, .bool bw, .slice aw nw cw, .slice aw2 nw2 cw2] 80)) 75 #[.bool bx, .slice ax nx cx, .bool by1, .slice ay ny cy]
 replace p0 := p0.ext ((Below.refl _ _).alloc (Nat.le_refl _) (Obj.cells #[.bool bx, .slice ax nx cx, .bool by1, .slice ay ny cy] 75))
 replace p1 := p1.ext ((Below.refl _ _).alloc (Nat.le_refl _) (Obj.cells #[.bool bx, .slice ax nx cx, .bool by1, .slice ay ny cy] 75))
 have hEW : Ext w (((w.alloc (Obj.cells #[.bool b, .slice a n c, .slice a2 n2 c2] 28)).alloc (Obj.cells #[.bool bv, .slice av nv cv, .slice av2 nv2 cv2, .bool bw, .slice aw nw cw, .slice aw2 nw2 cw2] 80)).alloc (Obj.cells #[.bool bx, .slice ax nx cx, .bool by1, .slice ay ny cy] 75)) := ((((Below.refl _ w).alloc (by simp) _).alloc (by simp) _).alloc (by simp; omega) _)
 generalize hgW : ((w.alloc (Obj.cells #[.bool b, .slice a n c, .slice a2 n2 c2] 28)).alloc (Obj.cells #[.bool bv, .slice av nv cv, .slice av2 nv2 cv2, .bool bw, .slice aw nw cw, .slice aw2 nw2 cw2] 80)).alloc (Obj.cells #[.bool bx, .slice ax nx cx, .bool by1, .slice ay ny cy] 75) = W at *
 clear hgW
 simp only [World.size_alloc] at p1 p2
 have p0_ne_p1 : ¬ w.heap.size = w.heap.size + 1 := by omega
 have p0_ne_p2 : ¬ w.heap.size = w.heap.size + 1 + 1 := by omega
 have p1_ne_p0 : ¬ w.heap.size + 1 = w.heap.size := by omega
 have p1_ne_p2 : ¬ w.heap.size + 1 = w.heap.size + 1 + 1 := by omega
 have p2_ne_p0 : ¬ w.heap.size + 1 + 1 = w.heap.size := by omega
 have p2_ne_p1 : ¬ w.heap.size + 1 + 1 = w.heap.size + 1 := by omega
 replace p0_0 := p0.cell (i := 0) rfl
 replace p0_1 := p0.cell (i := 1) rfl
 replace p0_2 := p0.cell (i := 2) rfl
 replace p1_0 := p1.cell (i := 0) rfl
 replace p1_1 := p1.cell (i := 1) rfl
 replace p1_2 := p1.cell (i := 2) rfl
 replace p1_3 := p1.cell (i := 3) rfl
 replace p1_4 := p1.cell (i := 4) rfl
 replace p1_5 := p1.cell (i := 5) rfl
 replace p2_0 := p2.cell (i := 0) rfl
 replace p2_1 := p2.cell (i := 1) rfl
 replace p2_2 := p2.cell (i := 2) rfl
 replace p2_3 := p2.cell (i := 3) rfl
 have HP0 := Lib.hid p0
 have HP1 := Lib.hid p1
 have HP2 := Lib.hid p2
 have HEW := Lib.hid hEW
 clear p0 p0_0 p0_1 p0_2 p1 p1_0 p1_1 p1_2 p1_3 p1_4 p1_5 p2 p2_0 p2_1 p2_2 p2_3 hEW
 go_wp2_with fail
 refine vec_r1 w W bv av av2 nv cv nv2 cv2 bw aw aw2 nw cw nw2 cw2 HP1 _ _ _ _ _ _ _ _ _ _ _ _ _ _ _ _ _ _ _ _ _ _ _ _ _ _ _ _ _ _ _ _ _ _ _ _ _ _ _ _ _ _ _ _ _ _ _ _ _ _ _ _ _ _ _ _ _ _ _ _ _ _ _ _ _ _ _ _ _ _ _ _ _ _ _ _ _ _ _ _ _ _ _ _ _ _ _ _ _ _ _ _ _ _ _ _ _ _ _ _ _ _ _ _ _ _ _ _ _ _ _ _ _ _ _ _ _ _ _ _ _ _ _ _ _ _ _ _ _ _ _ _ _ _ _ _ _ _ _ _ _ _ _ _ _ _ _ _ _ _ _ _ _ _ _ _ _ _ _ _ _ _ _ _ _ _ _ _ _ _ _ _ _ _ _ _ _ _ _ _ _ _ _ _ _ _ _ _ _ _ _ _ _ _ _ _ _ _ _ _ ?_
 intro qa qb v23 v24 v25 v26 w1 hqab HA HB HE1
 have HP0 := Lib.hid (HP0.out.ext HE1.out)
 have HP2 := Lib.hid (HP2.out.ext HE1.out)
 replace HE1 := Lib.hid (Ext.trans HEW.out HE1.out)
 clear HP1 HEW
 replace HXM := Lib.hid (HXM.out.ext HE1.out)
 replace HV := Lib.hid (HV.out.ext HE1.out)
 replace HW := Lib.hid (HW.out.ext HE1.out)
 replace HQR := Lib.hid (rFr_ext HQR.out HE1.out)
 have ua := HA.out
 skip
 replace ua_0 := ua.cell (i := 0) rfl
 replace ua_1 := ua.cell (i := 1) rfl
 replace ua_2 := ua.cell (i := 2) rfl
 go_wp2_with fail
 (with_reducible refine (copyVec_raw K (by omega) w1 bv av av2 nv cv nv2 cv2 v.1 v.2 lv xv HV.out (by omega)).mono ?_)
 rintro e w2 ⟨a3, c3, a4, c4, rfl, hP, hE⟩
 replace ua := ua.ext hE; replace ua_0 := ua.cell (i := 0) rfl; replace ua_1 := ua.cell (i := 1) rfl; replace ua_2 := ua.cell (i := 2) rfl
 go_upto_region 3 with (fail)
 have ue := Blk.new w2 32 #[.bool bv, .slice a3 nv c3, .slice a4 nv2 c4]
 have hEW2 : Ext w2 (w2.alloc (Obj.cells #[.bool bv, .slice a3 nv c3, .slice a4 nv2 c4] 32)) := ((Below.refl _ w2).alloc (by simp) _)
 generalize hgW2 : w2.alloc (Obj.cells #[.bool bv, .slice a3 nv c3, .slice a4 nv2 c4] 32) = W2 at *
 clear hgW2
 replace ue_0 := ue.cell (i := 0) rfl
 replace ue_1 := ue.cell (i := 1) rfl
 replace ue_2 := ue.cell (i := 2) rfl
 have HUE := Lib.hid ue
 clear ua ua_0 ua_1 ua_2 ue ue_0 ue_1 ue_2
 have hEn := Ext.trans hE hEW2
 have HPV := Lib.hid (hP.ext hEW2)
 clear hP
 replace HP0 := Lib.hid (HP0.out.ext hEn)
 replace HP2 := Lib.hid (HP2.out.ext hEn)
 replace HA := Lib.hid (HA.out.ext hEn)
 replace HB := Lib.hid (HB.out.ext hEn)
 replace HXM := Lib.hid (HXM.out.ext hEn)
 replace HV := Lib.hid (HV.out.ext hEn)
 replace HW := Lib.hid (HW.out.ext hEn)
 replace HQR := Lib.hid (rFr_ext HQR.out hEn)
 replace HE1 := Lib.hid (Ext.trans HE1.out hEn)
 clear hE hEW2 hEn
 have ue := HUE.out
 skip
 replace ue_0 := ue.cell (i := 0) rfl
 replace ue_1 := ue.cell (i := 1) rfl
 replace ue_2 := ue.cell (i := 2) rfl
 go_wp2_with fail
 (with_reducible refine (vecNorm_ans K (by omega) W2 bv a3 a4 nv c3 nv2 c4 v HPV.out.vec (by omega) s1 HS1 qn HQN).mono ?_)
 rintro e w3 ⟨bn, an, nn, cn, an2, nn2, cn2, rfl, hE, hme, hmo⟩
 replace ue := ue.ext hE; replace ue_0 := ue.cell (i := 0) rfl; replace ue_1 := ue.cell (i := 1) rfl; replace ue_2 := ue.cell (i := 2) rfl
 go_upto_region 4 with (fail)
 have un := Blk.new w3 32 #[.bool bn, .slice an nn cn, .slice an2 nn2 cn2]
 have hEW3 : Ext w3 (w3.alloc (Obj.cells #[.bool bn, .slice an nn cn, .slice an2 nn2 cn2] 32)) := ((Below.refl _ w3).alloc (by simp) _)
 generalize hgW3 : w3.alloc (Obj.cells #[.bool bn, .slice an nn cn, .slice an2 nn2 cn2] 32) = W3 at *
 clear hgW3
 replace un_0 := un.cell (i := 0) rfl
 replace un_1 := un.cell (i := 1) rfl
 replace un_2 := un.cell (i := 2) rfl
 have HUn := Lib.hid un
 clear ue ue_0 ue_1 ue_2 un un_0 un_1 un_2
 have hEn := Ext.trans hE hEW3
 have HOn := Lib.hid ((OkV.mk hme hmo : OkV w3 s1 bn an nn cn an2 nn2 cn2 qn).ext hEW3)
 clear hme hmo
 replace HP0 := Lib.hid (HP0.out.ext hEn)
 replace HP2 := Lib.hid (HP2.out.ext hEn)
 replace HA := Lib.hid (HA.out.ext hEn)
 replace HB := Lib.hid (HB.out.ext hEn)
 replace HUE := Lib.hid (HUE.out.ext hEn)
 replace HXM := Lib.hid (HXM.out.ext hEn)
 replace HV := Lib.hid (HV.out.ext hEn)
 replace HW := Lib.hid (HW.out.ext hEn)
 replace HPV := Lib.hid (HPV.out.ext hEn)
 replace HQR := Lib.hid (rFr_ext HQR.out hEn)
 replace HE1 := Lib.hid (Ext.trans HE1.out hEn)
 clear hE hEW3 hEn
 have ue := HUE.out
 skip
 have ub := HB.out
 skip
 replace ue_0 := ue.cell (i := 0) rfl
 replace ue_1 := ue.cell (i := 1) rfl
 replace ue_2 := ue.cell (i := 2) rfl
 replace ub_0 := ub.cell (i := 0) rfl
 replace ub_1 := ub.cell (i := 1) rfl
 replace ub_2 := ub.cell (i := 2) rfl
 go_wp2_with fail
 (with_reducible refine (vecEqual_any K (by omega) W3 bv a3 a4 nv c3 nv2 c4 v HPV.out.vec bw aw aw2 nw cw nw2 cw2 y HW.out.vec s2 HS2 sb HSB).mono ?_)
 rintro e w4 ⟨rfl, hE⟩
 clear ue ue_0 ue_1 ue_2 ub ub_0 ub_1 ub_2
 replace HP0 := Lib.hid (HP0.out.ext hE)
 replace HP2 := Lib.hid (HP2.out.ext hE)
 replace HA := Lib.hid (HA.out.ext hE)
 replace HB := Lib.hid (HB.out.ext hE)
 replace HUE := Lib.hid (HUE.out.ext hE)
 replace HUn := Lib.hid (HUn.out.ext hE)
 replace HXM := Lib.hid (HXM.out.ext hE)
 replace HV := Lib.hid (HV.out.ext hE)
 replace HW := Lib.hid (HW.out.ext hE)
 replace HPV := Lib.hid (HPV.out.ext hE)
 replace HOn := Lib.hid (HOn.out.ext hE)
 replace HQR := Lib.hid (rFr_ext HQR.out hE)
 replace HE1 := Lib.hid (Ext.trans HE1.out hE)
 clear hE
 have ue := HUE.out
 skip
 have ub := HB.out
 skip
 have p2 := HP2.out
 skip
 replace ue_0 := ue.cell (i := 0) rfl
 replace ue_1 := ue.cell (i := 1) rfl
 replace ue_2 := ue.cell (i := 2) rfl
 replace ub_0 := ub.cell (i := 0) rfl
 replace ub_1 := ub.cell (i := 1) rfl
 replace ub_2 := ub.cell (i := 2) rfl
 replace p2_0 := p2.cell (i := 0) rfl
 replace p2_1 := p2.cell (i := 1) rfl
 replace p2_2 := p2.cell (i := 2) rfl
 replace p2_3 := p2.cell (i := 3) rfl
 go_wp2_with fail
 (with_reducible refine (vecAdd_ans K (by omega) w4 bv a3 a4 nv c3 nv2 c4 v HPV.out.vec bw aw aw2 nw cw nw2 cw2 y HW.out.vec bx by1 ax ay nx cx ny cy q HQR.out (by omega) s3 HS3 qs HQS).mono ?_)
 rintro e w5 ⟨bd, ad, nd, cd, ad2, nd2, cd2, rfl, hE, hme, hmo⟩
 replace ue := ue.ext hE; replace ue_0 := ue.cell (i := 0) rfl; replace ue_1 := ue.cell (i := 1) rfl; replace ue_2 := ue.cell (i := 2) rfl; replace ub := ub.ext hE; replace ub_0 := ub.cell (i := 0) rfl; replace ub_1 := ub.cell (i := 1) rfl; replace ub_2 := ub.cell (i := 2) rfl; replace p2 := p2.ext hE; replace p2_0 := p2.cell (i := 0) rfl; replace p2_1 := p2.cell (i := 1) rfl; replace p2_2 := p2.cell (i := 2) rfl; replace p2_3 := p2.cell (i := 3) rfl
 go_upto_region 6 with (fail)
 have ud := Blk.new w5 32 #[.bool bd, .slice ad nd cd, .slice ad2 nd2 cd2]
 have hEW5 : Ext w5 (w5.alloc (Obj.cells #[.bool bd, .slice ad nd cd, .slice ad2 nd2 cd2] 32)) := ((Below.refl _ w5).alloc (by simp) _)
 generalize hgW5 : w5.alloc (Obj.cells #[.bool bd, .slice ad nd cd, .slice ad2 nd2 cd2] 32) = W5 at *
 clear hgW5
 replace ud_0 := ud.cell (i := 0) rfl
 replace ud_1 := ud.cell (i := 1) rfl
 replace ud_2 := ud.cell (i := 2) rfl
 have HUd := Lib.hid ud
 clear ue ue_0 ue_1 ue_2 ub ub_0 ub_1 ub_2 p2 p2_0 p2_1 p2_2 p2_3 ud ud_0 ud_1 ud_2
 have hEn := Ext.trans hE hEW5
 have HOd := Lib.hid ((OkV.mk hme hmo : OkV w5 s3 bd ad nd cd ad2 nd2 cd2 qs).ext hEW5)
 clear hme hmo
 replace HP0 := Lib.hid (HP0.out.ext hEn)
 replace HP2 := Lib.hid (HP2.out.ext hEn)
 replace HA := Lib.hid (HA.out.ext hEn)
 replace HB := Lib.hid (HB.out.ext hEn)
 replace HUE := Lib.hid (HUE.out.ext hEn)
 replace HUn := Lib.hid (HUn.out.ext hEn)
 replace HXM := Lib.hid (HXM.out.ext hEn)
 replace HV := Lib.hid (HV.out.ext hEn)
 replace HW := Lib.hid (HW.out.ext hEn)
 replace HPV := Lib.hid (HPV.out.ext hEn)
 replace HOn := Lib.hid (HOn.out.ext hEn)
 replace HQR := Lib.hid (rFr_ext HQR.out hEn)
 replace HE1 := Lib.hid (Ext.trans HE1.out hEn)
 clear hE hEW5 hEn
 have p0 := HP0.out
 skip
 have ue := HUE.out
 skip
 replace p0_0 := p0.cell (i := 0) rfl
 replace p0_1 := p0.cell (i := 1) rfl
 replace p0_2 := p0.cell (i := 2) rfl
 replace ue_0 := ue.cell (i := 0) rfl
 replace ue_1 := ue.cell (i := 1) rfl
 replace ue_2 := ue.cell (i := 2) rfl
 go_wp2_with fail
 (with_reducible refine (apply_ans K (by omega) W5 b a a2 n c n2 c2 x HXM.out bv a3 a4 nv c3 nv2 c4 v HPV.out.vec (by omega) (by omega) (Nat.le_trans HCX.out (by decide)) s4 HS4 qp HQP).mono ?_)
 rintro e w6 ⟨bh, ah, nh, ch, ah2, nh2, ch2, rfl, hE, hme, hmo⟩
 replace p0 := p0.ext hE; replace p0_0 := p0.cell (i := 0) rfl; replace p0_1 := p0.cell (i := 1) rfl; replace p0_2 := p0.cell (i := 2) rfl; replace ue := ue.ext hE; replace ue_0 := ue.cell (i := 0) rfl; replace ue_1 := ue.cell (i := 1) rfl; replace ue_2 := ue.cell (i := 2) rfl
 go_upto_region 7 with (fail)
 have uh := Blk.new w6 32 #[.bool bh, .slice ah nh ch, .slice ah2 nh2 ch2]
 have hEW6 : Ext w6 (w6.alloc (Obj.cells #[.bool bh, .slice ah nh ch, .slice ah2 nh2 ch2] 32)) := ((Below.refl _ w6).alloc (by simp) _)
 generalize hgW6 : w6.alloc (Obj.cells #[.bool bh, .slice ah nh ch, .slice ah2 nh2 ch2] 32) = W6 at *
 clear hgW6
 replace uh_0 := uh.cell (i := 0) rfl
 replace uh_1 := uh.cell (i := 1) rfl
 replace uh_2 := uh.cell (i := 2) rfl
 have HUh := Lib.hid uh
 clear p0 p0_0 p0_1 p0_2 ue ue_0 ue_1 ue_2 uh uh_0 uh_1 uh_2
 have hEn := Ext.trans hE hEW6
 have HOh := Lib.hid ((OkV.mk hme hmo : OkV w6 s4 bh ah nh ch ah2 nh2 ch2 qp).ext hEW6)
 clear hme hmo
 replace HP0 := Lib.hid (HP0.out.ext hEn)
 replace HP2 := Lib.hid (HP2.out.ext hEn)
 replace HA := Lib.hid (HA.out.ext hEn)
 replace HB := Lib.hid (HB.out.ext hEn)
 replace HUE := Lib.hid (HUE.out.ext hEn)
 replace HUn := Lib.hid (HUn.out.ext hEn)
 replace HUd := Lib.hid (HUd.out.ext hEn)
 replace HXM := Lib.hid (HXM.out.ext hEn)
 replace HV := Lib.hid (HV.out.ext hEn)
 replace HW := Lib.hid (HW.out.ext hEn)
 replace HPV := Lib.hid (HPV.out.ext hEn)
 replace HOn := Lib.hid (HOn.out.ext hEn)
 replace HOd := Lib.hid (HOd.out.ext hEn)
 replace HQR := Lib.hid (rFr_ext HQR.out hEn)
 replace HE1 := Lib.hid (Ext.trans HE1.out hEn)
 clear hE hEW6 hEn
 go_cut [18, 19] (fun s t wx => s = .bool vm ∧ t = .bool wm ∧ Hid (Ext W6 wx))
 case first =>
  have hEd : Ext W6 W6.drew := (Below.refl _ _).drew
  have ua := HA.out.ext hEd
  skip
  have ub := HB.out.ext hEd
  skip
  replace ua_0 := ua.cell (i := 0) rfl
  replace ua_1 := ua.cell (i := 1) rfl
  replace ua_2 := ua.cell (i := 2) rfl
  replace ub_0 := ub.cell (i := 0) rfl
  replace ub_1 := ub.cell (i := 1) rfl
  replace ub_2 := ub.cell (i := 2) rfl
  have hE0 := hEd
  clear hEd
  go_region_held3 (fun w' => w'.cell? ⟨qa, 0, none⟩ = some (.bool bv) ∧ w'.cell? ⟨qa, 1, none⟩ = some (.slice av nv cv) ∧ w'.cell? ⟨qa, 2, none⟩ = some (.slice av2 nv2 cv2) ∧ w'.cell? ⟨qb, 0, none⟩ = some (.bool bw) ∧ w'.cell? ⟨qb, 1, none⟩ = some (.slice aw nw cw) ∧ w'.cell? ⟨qb, 2, none⟩ = some (.slice aw2 nw2 cw2)) (first | exact ⟨ua_0, ua_1, ua_2, ub_0, ub_1, ub_2⟩ | go_keep)
   (first
   | (go_at_call 16; (with_reducible refine (r11VecMay_any K (by omega) _ bv av av2 nv cv nv2 cv2 v.1 v.2 (HV.out.ext hE0).vec vm HVM).mono ?_); rintro e w7 ⟨rfl, hE1⟩; replace ua := ua.ext hE1; replace ua_0 := ua.cell (i := 0) rfl; replace ua_1 := ua.cell (i := 1) rfl; replace ua_2 := ua.cell (i := 2) rfl; replace ub := ub.ext hE1; replace ub_0 := ub.cell (i := 0) rfl; replace ub_1 := ub.cell (i := 1) rfl; replace ub_2 := ub.cell (i := 2) rfl; replace hE0 := Ext.trans hE0 hE1)
   | (go_at_call 16; (with_reducible refine (r11VecMay_any K (by omega) _ bw aw aw2 nw cw nw2 cw2 y.1 y.2 (HW.out.ext hE0).vec wm HWM).mono ?_); rintro e w7 ⟨rfl, hE1⟩; replace ua := ua.ext hE1; replace ua_0 := ua.cell (i := 0) rfl; replace ua_1 := ua.cell (i := 1) rfl; replace ua_2 := ua.cell (i := 2) rfl; replace ub := ub.ext hE1; replace ub_0 := ub.cell (i := 0) rfl; replace ub_1 := ub.cell (i := 1) rfl; replace ub_2 := ub.cell (i := 2) rfl; replace hE0 := Ext.trans hE0 hE1))
  all_goals
   have HF := Lib.hid hE0
   clear hE0
   clear ua ua_0 ua_1 ua_2 ub ub_0 ub_1 ub_2
   go_wp2_with fail
   go_meet
   exact ⟨rfl, rfl, HF⟩
 case rest =>
  obtain ⟨rfl, rfl, hE⟩ := hcut
  obtain ⟨w9, rfl⟩ : ∃ z : World, z = wc := ⟨_, rfl⟩
  replace HP0 := Lib.hid (HP0.out.ext hE.out)
  replace HP2 := Lib.hid (HP2.out.ext hE.out)
  replace HA := Lib.hid (HA.out.ext hE.out)
  replace HB := Lib.hid (HB.out.ext hE.out)
  replace HUE := Lib.hid (HUE.out.ext hE.out)
  replace HUn := Lib.hid (HUn.out.ext hE.out)
  replace HUd := Lib.hid (HUd.out.ext hE.out)
  replace HUh := Lib.hid (HUh.out.ext hE.out)
  replace HXM := Lib.hid (HXM.out.ext hE.out)
  replace HV := Lib.hid (HV.out.ext hE.out)
  replace HW := Lib.hid (HW.out.ext hE.out)
  replace HPV := Lib.hid (HPV.out.ext hE.out)
  replace HOn := Lib.hid (HOn.out.ext hE.out)
  replace HOd := Lib.hid (HOd.out.ext hE.out)
  replace HOh := Lib.hid (HOh.out.ext hE.out)
  replace HQR := Lib.hid (rFr_ext HQR.out hE.out)
  replace HE1 := Lib.hid (Ext.trans HE1.out hE.out)
  clear hE
  go_wp2_with fail
  refine vec_r8 K hK w9 bv av av2 nv cv nv2 cv2 v lv xv HV a3 a4 c3 c4 HPV hnv2 bn an an2 nn cn nn2 cn2 s1 HS1 qn HQN HOn qa w2.heap.size w3.heap.size HA HUE HUn vm HVM _ _ _ _ _ _ _ _ _ _ _ _ _ _ _ _ _ _ _ _ _ _ _ _ _ _ _ _ _ _ _ _ _ _ _ _ _ _ _ _ _ _ _ _ _ _ _ _ _ _ _ _ _ _ _ _ _ _ _ _ _ _ _ _ _ _ _ _ _ _ _ _ _ _ _ _ _ _ _ _ _ _ _ _ _ _ _ _ _ _ _ _ _ _ _ _ _ _ _ _ _ _ _ _ _ _ _ _ _ _ _ _ _ _ _ _ _ _ _ _ _ _ _ _ _ _ _ _ _ _ _ _ _ _ _ _ _ _ _ _ _ _ _ _ _ _ _ _ _ _ _ _ _ _ _ _ _ _ _ _ _ _ _ _ _ _ _ _ _ _ _ _ _ _ _ _ _ _ _ _ _ _ _ _ _ _ _ _ _ _ _ _ _ _ _ _ _ _ ?_
  intro v57 v58 v59 v60 v61 v62 v63 v64 v65 v66 v67 v68 v69 v70 v71 v72 v73 v74 v75 v76 v77 v78 v79 v80 v81 v82 v83 v84 v85 v86 w10 hE
  replace HP0 := Lib.hid (HP0.out.ext hE.out)
  replace HP2 := Lib.hid (HP2.out.ext hE.out)
  replace HA := Lib.hid (HA.out.ext hE.out)
  replace HB := Lib.hid (HB.out.ext hE.out)
  replace HUE := Lib.hid (HUE.out.ext hE.out)
  replace HUn := Lib.hid (HUn.out.ext hE.out)
  replace HUd := Lib.hid (HUd.out.ext hE.out)
  replace HUh := Lib.hid (HUh.out.ext hE.out)
  replace HXM := Lib.hid (HXM.out.ext hE.out)
  replace HV := Lib.hid (HV.out.ext hE.out)
  replace HW := Lib.hid (HW.out.ext hE.out)
  replace HPV := Lib.hid (HPV.out.ext hE.out)
  replace HOn := Lib.hid (HOn.out.ext hE.out)
  replace HOd := Lib.hid (HOd.out.ext hE.out)
  replace HOh := Lib.hid (HOh.out.ext hE.out)
  replace HQR := Lib.hid (rFr_ext HQR.out hE.out)
  replace HE1 := Lib.hid (Ext.trans HE1.out hE.out)
  clear hE HOn HUn HUE HPV HQN HS1
  go_upto_region 10 with (fail)
  go_cut [93] (fun s wx => ∃ ob : Bool, s = .bool ob ∧ Hid (ob = (!vm || !wm)) ∧ wx = w10)
  case first =>
   cases vm with
   | false =>
    go_wp2_with fail
    go_meet
    exact ⟨true, rfl, Lib.hid rfl, rfl⟩
   | true =>
    cases wm with
    | false =>
     go_wp2_with fail
     go_meet
     exact ⟨true, rfl, Lib.hid rfl, rfl⟩
    | true =>
     go_wp2_with fail
     go_meet
     exact ⟨false, rfl, Lib.hid rfl, rfl⟩
  case rest =>
   obtain ⟨ob, rfl, HOB, hwc⟩ := hcut
   obtain rfl : w10 = wc := hwc.symm
   go_upto_if 93 with (fail)
   go_cut [18] (fun s wx => s = .bool vm ∧ Hid (Ext w10 wx))
   case first =>
    as_aux_lemma =>
     by_cases hvw : v.1 ≠ 0 ∧ y.1 ≠ 0
     ·obtain ⟨hv, hw⟩ := hvw
      obtain ⟨rfl, h3⟩ := HGOOD.out hv hw
      obtain rfl : vm = true := by rw [← HVM.out]; exact decide_eq_true hv
      obtain rfl : wm = true := by rw [← HWM.out]; exact decide_eq_true hw
      obtain rfl : ob = false := HOB.out
      have H3 := Lib.hid h3
      have HSC : Hid (sb = true ↔ frV v.1 v.2 = frV y.1 y.2) := Lib.hid ⟨fun h => (HSB.out.1 h).2, fun h => HSB.out.2 ⟨rfl, h⟩⟩
      clear h3 HSB
      go_wp2_with fail
      refine vec_r13 K hK w10 bv av av2 nv cv nv2 cv2 v lv xv HV bw aw aw2 nw cw nw2 cw2 y lw xw HW hnv2 hnw2 0 sb rfl hv hw HSC qa qb HA HB _ _ _ _ _ _ _ _ _ _ _ _ _ _ _ _ _ _ _ _ _ _ _ _ _ _ _ _ _ _ _ _ _ _ _ _ _ _ _ _ _ _ _ _ _ _ _ _ _ _ _ _ _ _ _ _ _ _ _ _ _ _ _ _ _ _ _ _ _ _ _ _ _ _ _ _ _ _ _ _ _ _ _ _ _ _ _ _ _ _ _ _ _ _ _ _ _ _ _ _ _ _ _ _ _ _ _ _ _ _ _ _ _ _ _ _ _ _ _ _ _ _ _ _ _ _ _ _ _ _ _ _ _ _ _ _ _ _ _ _ _ _ _ _ _ _ _ _ _ _ _ _ _ _ _ _ _ _ _ _ _ _ _ _ _ _ _ _ _ _ _ _ _ _ _ _ _ _ _ _ _ _ _ _ _ _ _ _ _ _ _ _ _ _ _ _ _ _ _ ?_
      intro v108 v109 v110 v111 v112 v113 v114 v115 v116 v117 w11 hE
      have HX1 := hE
      clear HOh
      replace HA := Lib.hid (HA.out.ext hE.out)
      replace HB := Lib.hid (HB.out.ext hE.out)
      replace HP2 := Lib.hid (HP2.out.ext hE.out)
      replace HUd := Lib.hid (HUd.out.ext hE.out)
      replace HV := Lib.hid (HV.out.ext hE.out)
      replace HW := Lib.hid (HW.out.ext hE.out)
      replace HQR := Lib.hid (rFr_ext HQR.out hE.out)
      replace HOd := Lib.hid (HOd.out.ext hE.out)
      clear hE
      obtain ⟨_, _, _, _, _, _, _, _, hcs, lx, ly, hm1, hm2, hv1, hv2, hnx, hny⟩ := HQR.out
      cases hcs
      have HM2 := Lib.hid hm2
      have HV2 := Lib.hid hv2
      clear hv1 hv2 hm1 hm2 hnx hny
      by_cases hq0 : q.2 = 0
      ·obtain rfl : s3 = 6 := by rw [H3.out, if_pos hq0]
       have HMAY : Hid (decide (q.2 ≠ 0) = false) := Lib.hid (by simp [hq0])
       clear hq0
       obtain ⟨rfl, rfl, rfl, rfl, rfl, rfl, rfl⟩ := HOd.out.2 (by decide)
       have p2 := HP2.out
       skip
       replace p2_0 := p2.cell (i := 0) rfl
       replace p2_1 := p2.cell (i := 1) rfl
       replace p2_2 := p2.cell (i := 2) rfl
       replace p2_3 := p2.cell (i := 3) rfl
       go_wp2_with fail
       (with_reducible refine (r5May_any w11 bx by1 ax ay nx cx ny cy ly q.2 HM2.out HV2 false HMAY).mono ?_)
       rintro e w12 ⟨rfl, hE⟩
       have HX2 := Lib.hid (Ext.trans HX1.out hE)
       clear p2 p2_0 p2_1 p2_2 p2_3
       have zz := HUd.out.ext hE
       skip
       replace zz_0 := zz.cell (i := 0) rfl
       replace zz_1 := zz.cell (i := 1) rfl
       replace zz_2 := zz.cell (i := 2) rfl
       clear hE
       go_wp2_with fail
       (with_reducible refine (noVec_yes w12).mono ?_)
       rintro e w13 ⟨rfl, hE⟩
       have HF := Lib.hid (Ext.trans HX2.out hE)
       clear hE
       clear zz zz_0 zz_1 zz_2
       go_wp2_with fail
       go_meet
       exact ⟨rfl, HF⟩
      ·have HMAY : Hid (decide (q.2 ≠ 0) = true) := Lib.hid (by simp [hq0])
       by_cases hnn : nv2 = nw2
       ·obtain rfl : s3 = 0 := by rw [H3.out, if_neg hq0, if_neg (by simpa using hnn)]
        have hgb : ((nv2 : Int) != (nw2 : Int)) = false := by rw [hnn]; simp
        clear hq0 hnn
        have p2 := HP2.out
        skip
        replace p2_0 := p2.cell (i := 0) rfl
        replace p2_1 := p2.cell (i := 1) rfl
        replace p2_2 := p2.cell (i := 2) rfl
        replace p2_3 := p2.cell (i := 3) rfl
        go_wp2_with fail
        (with_reducible refine (r5May_any w11 bx by1 ax ay nx cx ny cy ly q.2 HM2.out HV2 true HMAY).mono ?_)
        rintro e w12 ⟨rfl, hE⟩
        have HX2 := Lib.hid (Ext.trans HX1.out hE)
        clear p2 p2_0 p2_1 p2_2 p2_3
        replace HA := Lib.hid (HA.out.ext hE)
        replace HB := Lib.hid (HB.out.ext hE)
        replace HP2 := Lib.hid (HP2.out.ext hE)
        replace HUd := Lib.hid (HUd.out.ext hE)
        replace HV := Lib.hid (HV.out.ext hE)
        replace HW := Lib.hid (HW.out.ext hE)
        replace HQR := Lib.hid (rFr_ext HQR.out hE)
        replace HOd := Lib.hid (HOd.out.ext hE)
        clear hE
        have ua := HA.out
        skip
        have ub := HB.out
        skip
        replace ua_0 := ua.cell (i := 0) rfl
        replace ua_1 := ua.cell (i := 1) rfl
        replace ua_2 := ua.cell (i := 2) rfl
        replace ub_0 := ub.cell (i := 0) rfl
        replace ub_1 := ub.cell (i := 1) rfl
        replace ub_2 := ub.cell (i := 2) rfl
        go_wp2_with fail
        clear ua ua_0 ua_1 ua_2 ub ub_0 ub_1 ub_2
        refine vec_r15 K hK w w12 bv av av2 nv cv nv2 cv2 v lv xv HV bw aw aw2 nw cw nw2 cw2 y lw xw HW hnv2 bx by1 ax ay nx cx ny cy q HQR bd ad ad2 nd cd nd2 cd2 0 rfl HS3 qs HQS HOd qa qb w5.heap.size HA HB HUd HP2 _ _ _ _ _ _ _ _ _ _ _ _ _ _ _ _ _ _ _ _ _ _ _ _ _ _ _ _ _ _ _ _ _ _ _ _ _ _ _ _ _ _ _ _ _ _ _ _ _ _ _ _ _ _ _ _ _ _ _ _ _ _ _ _ _ _ _ _ _ _ _ _ _ _ _ _ _ _ _ _ _ _ _ _ _ _ _ _ _ _ _ _ _ _ _ _ _ _ _ _ _ _ _ _ _ _ _ _ _ _ _ _ _ _ _ _ _ _ _ _ _ _ _ _ _ _ _ _ _ _ _ _ _ _ _ _ _ _ _ _ _ _ _ _ _ _ _ _ _ _ _ _ _ _ _ _ _ _ _ _ _ _ _ _ _ _ _ _ _ _ _ _ _ _ _ _ _ _ _ _ _ _ _ _ _ _ _ _ _ _ _ _ _ _ _ _ _ _ ?_
        intro v119 v120 v121 v122 v123 v124 v125 v126 v127 v128 w13 hE
        have HF := Lib.hid (Ext.trans HX2.out hE.out)
        clear hE
        go_wp2_with fail
        go_meet
        exact ⟨rfl, HF⟩
       ·obtain rfl : s3 = 2 := by rw [H3.out, if_neg hq0, if_pos hnn]
        have hgb : ((nv2 : Int) != (nw2 : Int)) = true := by simp; omega
        clear hq0 hnn
        obtain ⟨rfl, rfl, rfl, rfl, rfl, rfl, rfl⟩ := HOd.out.2 (by decide)
        have p2 := HP2.out
        skip
        replace p2_0 := p2.cell (i := 0) rfl
        replace p2_1 := p2.cell (i := 1) rfl
        replace p2_2 := p2.cell (i := 2) rfl
        replace p2_3 := p2.cell (i := 3) rfl
        go_wp2_with fail
        (with_reducible refine (r5May_any w11 bx by1 ax ay nx cx ny cy ly q.2 HM2.out HV2 true HMAY).mono ?_)
        rintro e w12 ⟨rfl, hE⟩
        have HX2 := Lib.hid (Ext.trans HX1.out hE)
        clear p2 p2_0 p2_1 p2_2 p2_3
        replace HA := Lib.hid (HA.out.ext hE)
        replace HB := Lib.hid (HB.out.ext hE)
        have ua := HA.out
        skip
        have ub := HB.out
        skip
        replace ua_0 := ua.cell (i := 0) rfl
        replace ua_1 := ua.cell (i := 1) rfl
        replace ua_2 := ua.cell (i := 2) rfl
        replace ub_0 := ub.cell (i := 0) rfl
        replace ub_1 := ub.cell (i := 1) rfl
        replace ub_2 := ub.cell (i := 2) rfl
        have zz := HUd.out.ext hE
        skip
        replace zz_0 := zz.cell (i := 0) rfl
        replace zz_1 := zz.cell (i := 1) rfl
        replace zz_2 := zz.cell (i := 2) rfl
        clear hE
        go_wp2_with fail
        (with_reducible refine (noVec_yes w12).mono ?_)
        rintro e w13 ⟨rfl, hE⟩
        have HF := Lib.hid (Ext.trans HX2.out hE)
        clear hE
        clear zz zz_0 zz_1 zz_2 ua ua_0 ua_1 ua_2 ub ub_0 ub_1 ub_2
        go_wp2_with fail
        go_meet
        exact ⟨rfl, HF⟩
     ·obtain ⟨rfl, rfl⟩ := HBAD.out hvw
      obtain rfl : sb = false := sb_false HSB (fun h => by have := h.1; revert this; decide)
      obtain rfl : ob = true := by rw [HOB.out, ← HVM.out, ← HWM.out]; by_cases g : v.1 = 0; simp [g]; by_cases g2 : y.1 = 0; simp [g2]; exact absurd ⟨g, g2⟩ hvw
      obtain ⟨rfl, rfl, rfl, rfl, rfl, rfl, rfl⟩ := HOd.out.2 (by decide)
      have zz := HUd.out
      skip
      replace zz_0 := zz.cell (i := 0) rfl
      replace zz_1 := zz.cell (i := 1) rfl
      replace zz_2 := zz.cell (i := 2) rfl
      go_wp2_with fail
      (with_reducible refine (noVec_yes w10).mono ?_)
      rintro e w11 ⟨rfl, hE⟩
      have HF := Lib.hid hE
      clear hE
      clear zz zz_0 zz_1 zz_2
      go_wp2_with fail
      go_meet
      exact ⟨rfl, HF⟩
   case rest =>
    as_aux_lemma =>
     obtain ⟨rfl, hE⟩ := hcut
     obtain ⟨w14, rfl⟩ : ∃ z : World, z = wc := ⟨_, rfl⟩
     clear HOd HUd HB HW HP2 HQR HS2 HS3 HSB HGOOD HBAD HOB HQS
     replace HP0 := Lib.hid (HP0.out.ext hE.out)
     replace HA := Lib.hid (HA.out.ext hE.out)
     replace HUh := Lib.hid (HUh.out.ext hE.out)
     replace HXM := Lib.hid (HXM.out.ext hE.out)
     replace HV := Lib.hid (HV.out.ext hE.out)
     replace HOh := Lib.hid (HOh.out.ext hE.out)
     replace HE1 := Lib.hid (Ext.trans HE1.out hE.out)
     clear hE
     have p0 := HP0.out
     skip
     replace p0_0 := p0.cell (i := 0) rfl
     replace p0_1 := p0.cell (i := 1) rfl
     replace p0_2 := p0.cell (i := 2) rfl
     go_wp2_with fail
     (with_reducible refine (r11Check_any K (by omega) w14 b a a2 n c n2 c2 x.1 x.2 HXM.out s5 HS5).mono ?_)
     rintro e w15 ⟨rfl, hE⟩
     clear p0 p0_0 p0_1 p0_2
     replace HP0 := Lib.hid (HP0.out.ext hE)
     replace HA := Lib.hid (HA.out.ext hE)
     replace HUh := Lib.hid (HUh.out.ext hE)
     replace HXM := Lib.hid (HXM.out.ext hE)
     replace HV := Lib.hid (HV.out.ext hE)
     replace HOh := Lib.hid (HOh.out.ext hE)
     replace HE1 := Lib.hid (Ext.trans HE1.out hE)
     clear hE
     go_upto_region 24 with (fail)
     go_cut [163] (fun s wx => ∃ ob : Bool, s = .bool ob ∧ Hid (ob = decide (s5 = 0 ∧ v.1 = 0)) ∧ wx = w15)
     case first =>
      by_cases g1 : s5 = 0
      ·have hsb : (s5 == 0) = true := by simpa using g1
       by_cases g2 : v.1 = 0
       ·obtain rfl : vm = false := by rw [← HVM.out]; exact decide_eq_false (fun h => h g2)
        have HF : Hid (true = decide (s5 = 0 ∧ v.1 = 0)) := Lib.hid (by simp [g1, g2])
        clear g1 g2
        go_wp2_with fail
        go_meet
        exact ⟨true, rfl, HF, rfl⟩
       ·obtain rfl : vm = true := by rw [← HVM.out]; exact decide_eq_true g2
        have HF : Hid (false = decide (s5 = 0 ∧ v.1 = 0)) := Lib.hid (by simp [g2])
        clear g1 g2
        go_wp2_with fail
        go_meet
        exact ⟨false, rfl, HF, rfl⟩
      ·have hsb : (s5 == 0) = false := by simpa using g1
       have HF : Hid (false = decide (s5 = 0 ∧ v.1 = 0)) := Lib.hid (by simp [g1])
       clear g1
       go_wp2_with fail
       go_meet
       exact ⟨false, rfl, HF, rfl⟩
     case rest =>
      obtain ⟨ob, rfl, HOB, hwc⟩ := hcut
      obtain rfl : w15 = wc := hwc.symm
      go_upto_if 163 with (fail)
      go_cut [20] (fun s wx => s = .int .i64 s6 ∧ wx = w15)
      case first =>
       cases ob with
       | true =>
        have HF : Hid (s6 = 6) := Lib.hid (by rw [← HS6.out, if_pos (of_decide_eq_true HOB.out.symm)])
        go_wp2_with fail
        go_meet
        exact ⟨by rw [HF.out], rfl⟩
       | false =>
        have HF : Hid (s6 = s5) := Lib.hid (by rw [← HS6.out, if_neg (of_decide_eq_false HOB.out.symm)])
        go_wp2_with fail
        go_meet
        exact ⟨by rw [HF.out], rfl⟩
      case rest =>
       obtain ⟨rfl, hwc⟩ := hcut
       obtain rfl : w15 = wc := hwc.symm
       have p0 := HP0.out
       skip
       replace p0_0 := p0.cell (i := 0) rfl
       replace p0_1 := p0.cell (i := 1) rfl
       replace p0_2 := p0.cell (i := 2) rfl
       go_wp2_with fail
       (with_reducible refine (r11Size_any K w15 b a a2 n c n2 c2 x.1 x.2 HXM.out mx HMX).mono ?_)
       rintro e w16 ⟨rfl, hE⟩
       clear p0 p0_0 p0_1 p0_2
       replace HP0 := Lib.hid (HP0.out.ext hE)
       replace HA := Lib.hid (HA.out.ext hE)
       replace HUh := Lib.hid (HUh.out.ext hE)
       replace HXM := Lib.hid (HXM.out.ext hE)
       replace HV := Lib.hid (HV.out.ext hE)
       replace HOh := Lib.hid (HOh.out.ext hE)
       replace HE1 := Lib.hid (Ext.trans HE1.out hE)
       clear hE
       have ua := HA.out
       skip
       replace ua_0 := ua.cell (i := 0) rfl
       replace ua_1 := ua.cell (i := 1) rfl
       replace ua_2 := ua.cell (i := 2) rfl
       go_upto_region 27 with (fail)
       go_cut [177] (fun s wx => ∃ ob : Bool, s = .bool ob ∧ Hid (ob = decide (s6 = 0 ∧ ¬ mx = nv2)) ∧ wx = w16)
       case first =>
        by_cases g1 : s6 = 0
        ·have hsb : (s6 == 0) = true := by simpa using g1
         by_cases g2 : mx = nv2
         ·have hgb : ((mx : Int) != (nv2 : Int)) = false := by rw [g2]; simp
          have HF : Hid (false = decide (s6 = 0 ∧ ¬ mx = nv2)) := Lib.hid (by simp [g2])
          clear g1 g2
          go_wp2_with fail
          go_meet
          exact ⟨false, rfl, HF, rfl⟩
         ·have hgb : ((mx : Int) != (nv2 : Int)) = true := by simp; omega
          have HF : Hid (true = decide (s6 = 0 ∧ ¬ mx = nv2)) := Lib.hid (by simp [g1, g2])
          clear g1 g2
          go_wp2_with fail
          go_meet
          exact ⟨true, rfl, HF, rfl⟩
        ·have hsb : (s6 == 0) = false := by simpa using g1
         have HF : Hid (false = decide (s6 = 0 ∧ ¬ mx = nv2)) := Lib.hid (by simp [g1])
         clear g1
         go_wp2_with fail
         go_meet
         exact ⟨false, rfl, HF, rfl⟩
       case rest =>
        clear ua ua_0 ua_1 ua_2
        obtain ⟨ob, rfl, HOB, hwc⟩ := hcut
        obtain rfl : w16 = wc := hwc.symm
        go_upto_if 177 with (fail)
        go_cut [20] (fun s wx => s = .int .i64 s4 ∧ wx = w16)
        case first =>
         cases ob with
         | true =>
          have HF : Hid (s4 = 2) := Lib.hid (by rw [HC4.out, if_pos (of_decide_eq_true HOB.out.symm)])
          go_wp2_with fail
          go_meet
          exact ⟨by rw [HF.out], rfl⟩
         | false =>
          have HF : Hid (s4 = s6) := Lib.hid (by rw [HC4.out, if_neg (of_decide_eq_false HOB.out.symm)])
          go_wp2_with fail
          go_meet
          exact ⟨by rw [HF.out], rfl⟩
        case rest =>
         obtain ⟨rfl, hwc⟩ := hcut
         obtain rfl : w16 = wc := hwc.symm
         clear HOB HC4 HS6 HVM
         by_cases h4 : s4 = 0
         ·have hsb : (s4 != 0) = false := by simpa using h4
          have H4 := Lib.hid h4
          clear h4
          go_wp2_with fail
          refine vec_r31 K hK w w16 b a a2 n c n2 c2 x HXM hn2 bv av av2 nv cv nv2 cv2 v lv xv HV hnv2 bh ah ah2 nh ch nh2 ch2 s4 H4.out HS4 qp HQP HOh qa w6.heap.size HA HUh HP0 _ _ _ _ _ _ _ _ _ _ _ _ _ _ _ _ _ _ _ _ _ _ _ _ _ _ _ _ _ _ _ _ _ _ _ _ _ _ _ _ _ _ _ _ _ _ _ _ _ _ _ _ _ _ _ _ _ _ _ _ _ _ _ _ _ _ _ _ _ _ _ _ _ _ _ _ _ _ _ _ _ _ _ _ _ _ _ _ _ _ _ _ _ _ _ _ _ _ _ _ _ _ _ _ _ _ _ _ _ _ _ _ _ _ _ _ _ _ _ _ _ _ _ _ _ _ _ _ _ _ _ _ _ _ _ _ _ _ _ _ _ _ _ _ _ _ _ _ _ _ _ _ _ _ _ _ _ _ _ _ _ _ _ _ _ _ _ _ _ _ _ _ _ _ _ _ _ _ _ _ _ _ _ _ _ _ _ _ _ _ _ _ _ _ _ _ _ _ _ ?_
          intro v190 v191 v192 v193 v194 v195 v196 v197 v198 v199 v200 v201 w17 hE
          have HF := Lib.hid (Ext.trans HE1.out hE.out)
          clear hE
          go_wp2_with fail
          go_ret
          exact ⟨rfl, HF.out⟩
         ·have hsb : (s4 != 0) = true := by simpa using h4
          have hss : (s4 == s4) = true := by simp
          obtain ⟨rfl, rfl, rfl, rfl, rfl, rfl, rfl⟩ := HOh.out.2 h4
          clear h4
          have zz := HUh.out
          skip
          replace zz_0 := zz.cell (i := 0) rfl
          replace zz_1 := zz.cell (i := 1) rfl
          replace zz_2 := zz.cell (i := 2) rfl
          go_wp2_with fail
          (with_reducible refine (noVec_yes w16).mono ?_)
          rintro e w17 ⟨rfl, hE⟩
          have HX := Lib.hid (Ext.trans HE1.out hE)
          clear hE
          clear zz zz_0 zz_1 zz_2
          go_wp2_with fail
          (with_reducible refine (lives_yes w17).mono ?_)
          rintro e w18 ⟨rfl, hE⟩
          have HF := Lib.hid (Ext.trans HX.out hE)
          clear hE
          go_wp2_with fail
          go_ret
          exact ⟨rfl, HF.out⟩
end Go.Proofs.YtbhenelehhiakaaGreat
namespace Go.Proofs.YtbhenelehhiakaaGreat
open Go.RowKit Go.ChangeShapes Go.WideShapes Go.ChangeAt
theorem post_of_ext {H : Type} {enc : TypeId × Value → H} {P : Program} {f : Func} {s : ChangeSpec} {apart fresh handsOn again : Bool} {W W' : World} {args : Array Value} {v : Value} {ds gs : List (DataW H)} {before pa pv : List MemPlace}
  (hW : DataW.Whole enc P f.params.toList s.vars apart W args.toList ds gs before)
  (hres : ∀ (b : Nat) (sp : Nat → Bool) (hd : Bool), DataW.TrodAll enc P W' b sp hd f.resultTypes.toList (v.resultList f.resultTypes.size) (s.fn H (ds ++ gs)).results [])
  (hargs : ∀ sp : Nat → Bool, (∀ p ∈ before, sp p.block = true) → DataW.TrodAll enc P W' 0 sp true f.params.toList args.toList (s.fn H (ds ++ gs)).args pa)
  (hvars : ∀ sp : Nat → Bool, (∀ p ∈ before, sp p.block = true) → DataW.TrodVars enc P W' sp s.vars (s.fn H (ds ++ gs)).vars pv)
  (hps : before = pa ++ pv) (hE : Ext W W')
  (hok : ∀ (j : Nat) (t : TypeId) (r : Value), f.resultTypes[j]? = some t → (v.resultList f.resultTypes.size)[j]? = some r → Value.okWide P W' .any 0 t r) :
  s.post enc P f apart fresh handsOn again W args v W' := by
 have hlt : ∀ p ∈ before, p.block < W.heap.size := hW.lt
 have hold : ∀ p ∈ before, (fun b => decide (b < W.heap.size)) p.block = true := fun p hp => decide_eq_true (hlt p hp)
 have htrue : ∀ p ∈ before, (fun _ : Nat => true) p.block = true := fun _ _ => rfl
 have hrest := hW
 obtain ⟨_, _, _, _, _, hz, hn⟩ := hrest
 subst hps
 refine ⟨ds, gs, _, [], pa, pv, hW, hres _ _ _, hargs _ hold, hvars _ hold, hE.frame _, fun _ => ⟨hok, _, _, ([] ++ pa) ++ pv, ⟨[] ++ pa, pv, trodAll_append (hargs _ htrue) (hres _ _ _), hvars _ htrue, rfl, fun b off hp => ?_, fun ha => by simpa using hn ha⟩, fun p hp _ => by simpa using hp⟩⟩
 have hp2 : MemPlace.cell b off ∈ pa ++ pv := by simpa using hp
 rw [Below.frozen hE (show (⟨b, off, none⟩ : Addr).block < W.heap.size from hlt _ hp2)]
 exact hz b off hp2
end Go.Proofs.YtbhenelehhiakaaGreat
namespace Go.Proofs.YtbhenelehhiakaaGreat
open Go.RowKit Go.ChangeShapes Go.WideShapes Go.ChangeAt
section
variable {H : Type} {enc : TypeId × Value → H} {w : World} {sp : Nat → Bool} {hd : Bool}
def Bare (w : World) (ps : List MemPlace) : Prop := ∀ b off, MemPlace.cell b off ∈ ps → w.frozen? ⟨b, off, none⟩ = false
theorem Bare.left {w : World} {p q : List MemPlace} (h : Bare w (p ++ q)) : Bare w p := fun b o hm => h b o (List.mem_append_left _ hm)
theorem Bare.right {w : World} {p q : List MemPlace} (h : Bare w (p ++ q)) : Bare w q := fun b o hm => h b o (List.mem_append_right _ hm)
theorem bulkAll_map (l : List (DataW H × List MemPlace)) : Rows.uptoBulkAll (l.map (·.1)) = (l.map fun x => Rows.uptoBulk x.1).sum := by
 induction l with
 | nil => simp [Rows.uptoBulkAll]
 | cons x l ih => simp [Rows.uptoBulkAll, ih]
def Gives (K : Nat) (H : Type) (enc : TypeId × Value → H) (w : World) (sp : Nat → Bool) (hd : Bool) (t : TypeId) {α : Type} (r : Rd α) (M : α → Nat → Prop) : Prop :=
 ∀ (fuel : Nat) (cs : List Value) (x : DataW H × List MemPlace), DataW.trod enc Tryz.prog w 0 sp hd fuel t cs = some x → Bare w x.2 → Rows.uptoBulk x.1 ≤ K → ∃ v, r.ok 0 w cs v ∧ M v (Rows.uptoBulk x.1)
theorem cells_get {a : Addr} {n : Nat} {cs : List Value} (h : w.cells? 0 a n = some cs) : cs.length = n ∧ ∀ j (hj : j < cs.length), w.cell? (a.add j) = some cs[j] := by
 unfold World.cells? at h
 rw [if_pos (Nat.zero_le _)] at h
 have hl : cs.length = n := by simpa using mapM_some_length h
 refine ⟨hl, fun j hj => ?_⟩
 have := mapM_some_get h j j (by rw [List.getElem?_range (by omega)])
 rw [this, List.getElem?_eq_getElem hj]
theorem sum_ge {l : List Nat} {k : Nat} (h : ∀ x ∈ l, k ≤ x) : l.length * k ≤ l.sum := by
 induction l with
 | nil => simp
 | cons x l ih =>
  have h1 := h x (List.mem_cons_self ..)
  have h2 := ih (fun y hy => h y (List.mem_cons_of_mem _ hy))
  rw [List.length_cons, List.sum_cons, Nat.add_mul, Nat.one_mul]
  omega
theorem mem_le_sum {l : List Nat} {x : Nat} (h : x ∈ l) : x ≤ l.sum := by
 induction l with
 | nil => simp at h
 | cons y l ih =>
  rw [List.sum_cons]
  rcases List.mem_cons.1 h with rfl | h
  ·omega
  ·have := ih h; omega
theorem gives_slice {t e : TypeId} {α : Type} {r : Rd α} {M : α → Nat → Prop} (ht : Tryz.prog.underlying t = some (.slice e)) (hs : Tryz.prog.cellsOf e = r.size) (hp : 0 < r.size) {K : Nat} (hr : Gives K H enc w sp hd e r M) :
  ∀ (fuel : Nat) (cs : List Value) (x : DataW H × List MemPlace), DataW.trod enc Tryz.prog w 0 sp hd fuel t cs = some x → Bare w x.2 → Rows.uptoBulk x.1 ≤ K →
   ∃ (a : Option Addr) (n c : Nat) (vs : List α) (bs : List Nat), cs = [.slice a n c] ∧ Sl r 0 w a n c vs ∧ bs.length = vs.length ∧ (∀ i (h1 : i < vs.length) (h2 : i < bs.length), M vs[i] bs[i]) ∧ bs.sum + 1 ≤ Rows.uptoBulk x.1 := fun fuel cs x h hb hK => by
 rcases DataW.trod_slice ht h with ⟨rfl, rfl⟩ | ⟨a, n, c, elems, rest, m, _, rfl, rfl, _, hnc, hcm, hel, hget, _, _⟩
 ·exact ⟨none, 0, 0, [], [], rfl, Sl.empty _ _ _ _, rfl, fun i h1 => absurd h1 (by simp), by simp [Rows.uptoBulk]⟩
 ·rw [hs] at hget hb
  have hsum : (elems.map fun x => Rows.uptoBulk x.1).sum + 1 ≤ Rows.uptoBulk (.slice (elems.map (·.1)) (rest.map (·.1)) : DataW H) := by
   simp only [Rows.uptoBulk, bulkAll_map]
   omega
  have hread : ∀ i, i < n → ∃ csi v, w.cells? 0 (a.add (i * r.size)) r.size = some csi ∧ (∃ hi : i < elems.length, r.ok 0 w csi v ∧ M v (Rows.uptoBulk elems[i].1)) := fun i hi => by
   have h1 := hget i hi
   rw [List.getElem?_eq_getElem (by omega)] at h1
   obtain ⟨csi, h2, h3⟩ := Option.bind_eq_some_iff.1 h1
   have hbi : Bare w elems[i].2 := fun b o hm => hb b o (List.mem_append_right _ (List.mem_flatMap.2 ⟨elems[i], List.mem_append_left _ (List.getElem_mem _), hm⟩))
   have hKi : Rows.uptoBulk elems[i].1 ≤ K := Nat.le_trans (mem_le_sum (List.mem_map.2 ⟨elems[i], List.getElem_mem _, rfl⟩)) (Nat.le_trans (Nat.le_of_succ_le hsum) hK)
   obtain ⟨v, h4, h5⟩ := hr m csi _ h3 hbi hKi
   exact ⟨csi, v, h2, by omega, h4, h5⟩
  obtain ⟨vs, hvl, hvs⟩ := exists_list (α := α) (n := n) (fun i v => ∃ csi, w.cells? 0 (a.add (i * r.size)) r.size = some csi ∧ (∃ hi : i < elems.length, r.ok 0 w csi v ∧ M v (Rows.uptoBulk elems[i].1))) (fun i hi => by
   obtain ⟨csi, v, h1, h2⟩ := hread i hi
   exact ⟨v, csi, h1, h2⟩)
  have hspot : 0 < n → a.spot = none := fun h0 => by
   obtain ⟨csi, v, h1, _⟩ := hread 0 h0
   obtain ⟨h2, h3⟩ := cells_get h1
   have h4 := h3 0 (by omega)
   have h5 : (a.add (0 * r.size)).add 0 = a := by simp [Addr.add]
   rw [h5] at h4
   unfold World.cell? at h4
   split at h4
   ·split at h4
    ·simp at h4
    ·rename_i hq; simpa using hq
   ·simp at h4
  refine ⟨some a, n, c, vs, elems.map fun x => Rows.uptoBulk x.1, rfl, ⟨hvl, hnc, Nat.le_trans hcm (by decide), fun e => (by cases e), fun i hi => ?_⟩, by rw [List.length_map, hel, hvl], fun i h1 h2 => ?_, ?_⟩
  ·obtain ⟨csi, h1, h2, h3, h4⟩ := hvs i (by omega)
   obtain ⟨h5, h6⟩ := cells_get h1
   obtain ⟨b, o, q⟩ := a
   have hq : q = none := hspot (by omega)
   subst hq
   refine ⟨b, o, csi, rfl, h3, fun j hj => ?_⟩
   have hadd : ((⟨b, o, none⟩ : Addr).add (i * r.size)).add j = ⟨b, o + i * r.size + j, none⟩ := by
    unfold Addr.add
    by_cases g1 : i * r.size = 0
    ·rw [if_pos g1, g1]
     by_cases g2 : j = 0
     ·rw [if_pos g2, g2]; rfl
     ·rw [if_neg g2]; rfl
    ·rw [if_neg g1]
     by_cases g2 : j = 0
     ·rw [if_pos g2, g2]; rfl
     ·rw [if_neg g2]
   have h7 := h6 j hj
   rw [hadd] at h7
   refine ⟨Nat.zero_le _, h7, hb b _ (List.mem_append_left _ ?_)⟩
   unfold MemPlace.row
   refine List.mem_map.2 ⟨i * r.size + j, List.mem_range.2 ?_, by simp [Nat.add_assoc]⟩
   have g3 : i + 1 ≤ elems.length + rest.length := by omega
   have g4 := Nat.mul_le_mul_right r.size g3
   rw [Nat.add_mul, Nat.one_mul] at g4
   omega
  ·obtain ⟨csi, _, hi2, h3, h4⟩ := hvs i (by omega)
   rw [List.getElem_map]
   exact h4
  ·exact hsum
theorem gives_u32 (K : Nat) : Gives K H enc w sp hd 126 Rd.u32 (fun _ b => 1 ≤ b) := fun fuel cs x h hb _ => by
 obtain ⟨n, rfl, rfl, hw⟩ := DataW.trod_int Tryz.underlying126 h
 obtain ⟨h1, h2⟩ := bounds_u32 hw
 refine ⟨n.toNat, ⟨?_, by omega⟩, ?_⟩
 ·rw [show ((n.toNat : Nat) : Int) = n by omega]
 ·simp [Rows.uptoBulk]
set_option maxRecDepth 100000 in
theorem gives_int (K : Nat) : Gives K H enc w sp hd 25 (rIntK K) (fun z b => nl z.natAbs + 3 ≤ b) := fun fuel cs x h hb hK => by
 obtain ⟨y0, y1, n, rfl, hl, h0, h1⟩ := trod_struct2 Tryz.underlying25 h
 have hl2 : cs.length = 2 := by rw [hl]; kernel_rfl
 have hc1 : Tryz.prog.cellsOf 4 = 1 := by kernel_rfl
 have hc2 : Tryz.prog.cellsOf 23 = 1 := by kernel_rfl
 match cs, hl2 with
 | [v0, v1], _ =>
  simp only [hc1, hc2, List.drop_zero, List.take_succ_cons, List.take_zero, List.drop_succ_cons] at h0 h1
  obtain ⟨b, hb0, hy0⟩ := DataW.trod_bool Tryz.underlying4 h0
  have hbk : Rows.uptoBulk (.agg [y0.1, y1.1] : DataW H) = Rows.uptoBulk y0.1 + Rows.uptoBulk y1.1 + 1 := by simp [Rows.uptoBulk, Rows.uptoBulkAll]
  have hy0b : Rows.uptoBulk y0.1 = 1 := by rw [hy0]; simp [Rows.uptoBulk]
  rw [hbk] at hK
  obtain ⟨a, m, c, l, bs, hcs, hsl, hbl, hM, hsum⟩ := gives_slice Tryz.underlying23 (r := Rd.u32) (by kernel_rfl) (by decide) (gives_u32 K) n [v1] y1 h1 hb.right (by omega)
  cases hb0
  cases hcs
  have hm : m ≤ bs.sum := by
   have := sum_ge (l := bs) (k := 1) (fun x hx => by
    obtain ⟨i, hi, rfl⟩ := List.getElem_of_mem hx
    exact hM i (by omega) hi)
   have := hsl.len
   omega
  refine ⟨ival b l, ⟨b, a, m, c, l, rfl, hsl, rfl, by omega⟩, ?_⟩
  have := nl_of hsl (Lib.hid (rfl : ival b l = ival b l))
  rw [hbk, hy0b]
  omega
theorem gives_row (K : Nat) : Gives K H enc w sp hd 30 (rIntK K).slice (fun zs b => 3 * zs.length + 1 ≤ b) := fun fuel cs x h hb hK => by
 obtain ⟨a, n, c, zs, bs, rfl, hsl, hbl, hM, hsum⟩ := gives_slice Tryz.underlying30 (r := rIntK K) (by kernel_rfl) (by show 0 < 2; decide) (gives_int K) fuel cs x h hb hK
 refine ⟨zs, ⟨a, n, c, rfl, hsl⟩, ?_⟩
 have := sum_ge (l := bs) (k := 3) (fun x hx => by
  obtain ⟨i, hi, rfl⟩ := List.getElem_of_mem hx
  have := hM i (by omega) hi
  omega)
 omega
def MatM (x : Int × List (List Int)) (b : Nat) : Prop := x.2.length + 1 ≤ b ∧ 2 * colsOf x.2 + 1 ≤ b ∧ nl x.1.natAbs + 1 ≤ b ∧ ∀ zs ∈ x.2, zs.length ≤ b
set_option maxRecDepth 100000 in
theorem gives_mat (K : Nat) : Gives K H enc w sp hd 28 (rMatK K) MatM := fun fuel cs x h hb hK => by
 obtain ⟨y0, y1, n, rfl, hl, h0, h1⟩ := trod_struct2 Tryz.underlying28 h
 have hl2 : cs.length = 3 := by rw [hl]; kernel_rfl
 have hc1 : Tryz.prog.cellsOf 25 = 2 := by kernel_rfl
 have hc2 : Tryz.prog.cellsOf 26 = 1 := by kernel_rfl
 match cs, hl2 with
 | [v0, v1, v2], _ =>
  simp only [hc1, hc2, List.drop_zero, List.take_succ_cons, List.take_zero, List.drop_succ_cons] at h0 h1
  have hbk : Rows.uptoBulk (.agg [y0.1, y1.1] : DataW H) = Rows.uptoBulk y0.1 + Rows.uptoBulk y1.1 + 1 := by simp [Rows.uptoBulk, Rows.uptoBulkAll]
  rw [hbk] at hK
  obtain ⟨d, ⟨b, a, m, c, l, hcs, hN, hv, hm⟩, hMd⟩ := gives_int K n [v0, v1] y0 h0 hb.left (by omega)
  obtain ⟨a2, n2, c2, zss, bs, hcs2, hsl, hbl, hM, hsum⟩ := gives_slice Tryz.underlying26 (r := (rIntK K).slice) (by kernel_rfl) (by show 0 < 1; decide) (gives_row K) n [v2] y1 h1 hb.right (by omega)
  cases hcs
  cases hcs2
  refine ⟨(d, zss), ⟨b, a, m, c, a2, n2, c2, rfl, l, hN, hv, hm, hsl⟩, ?_⟩
  have hrows := sum_ge (l := bs) (k := 1) (fun x hx => by
   obtain ⟨i, hi, rfl⟩ := List.getElem_of_mem hx
   have := hM i (by omega) hi
   omega)
  have hrow : ∀ zs ∈ zss, 3 * zs.length + 1 ≤ bs.sum := fun zs hz => by
   obtain ⟨i, hi, rfl⟩ := List.getElem_of_mem hz
   exact Nat.le_trans (hM i hi (by omega)) (mem_le_sum (List.getElem_mem _))
  rw [hbk]
  refine ⟨?_, ?_, ?_, fun zs hz => ?_⟩
  ·show zss.length + 1 ≤ _
   omega
  ·show 2 * colsOf zss + 1 ≤ _
   cases zss with
   | nil => show 2 * 0 + 1 ≤ _; omega
   | cons z zs => have := hrow z (List.mem_cons_self ..); show 2 * z.length + 1 ≤ _; omega
  ·show nl d.natAbs + 1 ≤ _
   omega
  ·have := hrow zs hz; omega
end
end Go.Proofs.YtbhenelehhiakaaGreat
namespace Go.Proofs.YtbhenelehhiakaaGreat
open Go.RowKit Go.ChangeShapes Go.WideShapes Go.ChangeAt
theorem trodAll_stays {H : Type} {enc : TypeId × Value → H} {P : Program} (hl : laidOutB P = true) {W W' : World} (hE : Ext W W') : ∀ {ts : List TypeId} {vs : List Value} {ds : List (DataW H)} {ps : List MemPlace},
  (∀ t ∈ ts, P.readableRec t = true ∧ t < P.types.size) → DataW.TrodAll enc P W 0 (fun _ => true) true ts vs ds ps → (∀ x ∈ ps, x.block < W.heap.size) → ∀ sp : Nat → Bool, (∀ p ∈ ps, sp p.block = true) → DataW.TrodAll enc P W' 0 sp true ts vs ds ps
 | [], _, _, _, _, h, _, _, _ => by
  obtain ⟨rfl, rfl, rfl⟩ := trodAll_nil h
  rfl
 | t :: ts, _, _, _, hr, h, hlt, sp, hsp => by
  obtain ⟨v, vs, d, ds, p, q, rfl, rfl, rfl, h0, h1⟩ := trodAll_cons h
  obtain ⟨r1, r2⟩ := hr t (List.mem_cons_self ..)
  refine ⟨p, q, WideElems.Trod_stays hl r1 r2 h0 (fun x hx => Below.same hE (hlt x (List.mem_append_left _ hx))) (fun x hx => hsp x (List.mem_append_left _ hx)), ?_, rfl⟩
  exact trodAll_stays hl hE (fun t ht => hr t (List.mem_cons_of_mem _ ht)) h1 (fun x hx => hlt x (List.mem_append_right _ hx)) sp (fun x hx => hsp x (List.mem_append_right _ hx))
end Go.Proofs.YtbhenelehhiakaaGreat
namespace Go.Proofs.YtbhenelehhiakaaGreat
open Go.RowKit Go.ChangeShapes Go.WideShapes Go.ChangeAt
theorem okWide_arr {P : Program} {w : World} {r : Reach} {base : Nat} {t e : TypeId} {n : Nat} {v : Value} (ht : P.underlying t = some (.array n e)) (h : Value.okWide P w r base t v) : ∃ cs, v = .agg cs ∧ cs.size = P.cellsOf t := by
 simp only [Value.okWide, ht] at h
 obtain ⟨cs, h1, h2, _⟩ := h
 exact ⟨cs, h1, h2⟩
section
variable {H : Type} {enc : TypeId × Value → H} {w : World} {sp : Nat → Bool} {hd : Bool}
set_option maxRecDepth 100000 in
theorem gives_vec (K : Nat) : Gives K H enc w sp hd 32 (rVecK K) (fun x b => x.2.length + 1 ≤ b) := fun fuel cs x h hb hK => by
 obtain ⟨y0, y1, n, rfl, hl, h0, h1⟩ := trod_struct2 Tryz.underlying32 h
 have hl2 : cs.length = 3 := by rw [hl]; kernel_rfl
 have hc1 : Tryz.prog.cellsOf 25 = 2 := by kernel_rfl
 have hc2 : Tryz.prog.cellsOf 30 = 1 := by kernel_rfl
 match cs, hl2 with
 | [v0, v1, v2], _ =>
  simp only [hc1, hc2, List.drop_zero, List.take_succ_cons, List.take_zero, List.drop_succ_cons] at h0 h1
  have hbk : Rows.uptoBulk (.agg [y0.1, y1.1] : DataW H) = Rows.uptoBulk y0.1 + Rows.uptoBulk y1.1 + 1 := by simp [Rows.uptoBulk, Rows.uptoBulkAll]
  rw [hbk] at hK
  obtain ⟨d, ⟨b, a, m, c, l, hcs, hN, hv, hm⟩, hMd⟩ := gives_int K n [v0, v1] y0 h0 hb.left (by omega)
  obtain ⟨a2, n2, c2, zs, bs, hcs2, hsl, hbl, hM, hsum⟩ := gives_slice Tryz.underlying30 (r := rIntK K) (by kernel_rfl) (by show 0 < 2; decide) (gives_int K) n [v2] y1 h1 hb.right (by omega)
  cases hcs
  cases hcs2
  refine ⟨(d, zs), ⟨b, a, m, c, a2, n2, c2, rfl, l, hN, hv, hm, hsl⟩, ?_⟩
  have hrows := sum_ge (l := bs) (k := 1) (fun x hx => by
   obtain ⟨i, hi, rfl⟩ := List.getElem_of_mem hx
   have := hM i (by omega) hi
   omega)
  rw [hbk]
  show zs.length + 1 ≤ _
  omega
set_option maxRecDepth 100000 in
theorem open_vec2 (K : Nat) {fuel : Nat} {cs : List Value} {x : DataW H × List MemPlace} (h : DataW.trod enc Tryz.prog w 0 sp hd fuel 80 cs = some x) (hb : Bare w x.2) (hK : Rows.uptoBulk x.1 ≤ K) :
  ∃ (bv : Bool) (av : Option Addr) (nv cv : Nat) (av2 : Option Addr) (nv2 cv2 : Nat) (v : Int × List Int) (bw : Bool) (aw : Option Addr) (nw cw : Nat) (aw2 : Option Addr) (nw2 cw2 : Nat) (y : Int × List Int), cs = [.bool bv, .slice av nv cv, .slice av2 nv2 cv2, .bool bw, .slice aw nw cw, .slice aw2 nw2 cw2] ∧ VecS K w bv av nv cv av2 nv2 cv2 v.1 v.2 ∧ VecS K w bw aw nw cw aw2 nw2 cw2 y.1 y.2 ∧ nv2 ≤ K ∧ nw2 ≤ K := by
 obtain ⟨xs, m, _, rfl, hl, hxl, hget⟩ := DataW.trod_array Tryz.underlying80 h
 have hl2 : cs.length = 6 := by rw [hl]; kernel_rfl
 have hc1 : Tryz.prog.cellsOf 32 = 3 := by kernel_rfl
 match cs, hl2, xs, hxl with
 | [v0, v1, v2, v3, v4, v5], _, [y0, y1], _ =>
  have h0 := hget 0 (by decide)
  have h1 := hget 1 (by decide)
  simp only [hc1, Nat.zero_mul, Nat.one_mul, List.drop_zero, List.take_succ_cons, List.take_zero, List.drop_succ_cons, List.getElem?_cons_zero, List.getElem?_cons_succ] at h0 h1
  have hbk : Rows.uptoBulk (.agg ([y0, y1].map (·.1)) : DataW H) = Rows.uptoBulk y0.1 + Rows.uptoBulk y1.1 + 1 := by simp [Rows.uptoBulk, Rows.uptoBulkAll]
  rw [hbk] at hK
  have hb0 : Bare w y0.2 := fun b o hm => hb b o (by simp; exact .inl hm)
  have hb1 : Bare w y1.2 := fun b o hm => hb b o (by simp; exact .inr hm)
  obtain ⟨v, ⟨bv, av, nv, cv, av2, nv2, cv2, e0, l0, g0⟩, hM0⟩ := gives_vec K m _ y0 h0 hb0 (by omega)
  obtain ⟨y, ⟨bw, aw, nw, cw, aw2, nw2, cw2, e1, l1, g1⟩, hM1⟩ := gives_vec K m _ y1 h1 hb1 (by omega)
  cases e0
  cases e1
  have hV : VecS K w bv av nv cv av2 nv2 cv2 v.1 v.2 := ⟨l0, g0⟩
  have hW : VecS K w bw aw nw cw aw2 nw2 cw2 y.1 y.2 := ⟨l1, g1⟩
  have q0 := hV.len
  have q1 := hW.len
  have hM0 : v.2.length + 1 ≤ _ := hM0
  have hM1 : y.2.length + 1 ≤ _ := hM1
  exact ⟨bv, av, nv, cv, av2, nv2, cv2, v, bw, aw, nw, cw, aw2, nw2, cw2, y, rfl, hV, hW, by omega, by omega⟩
end
end Go.Proofs.YtbhenelehhiakaaGreat
namespace Go.Proofs.YtbhenelehhiakaaGreat
open Go.RowKit Go.ChangeShapes Go.WideShapes Go.ChangeAt
section
variable {H : Type} {enc : TypeId × Value → H} {w : World} {sp : Nat → Bool} {hd : Bool}
set_option maxRecDepth 100000 in
theorem gives_rat (K : Nat) : Gives K H enc w sp hd 75 (rFr K) (fun q b => nl q.1.natAbs + nl q.2.natAbs + 7 ≤ b) := fun fuel cs x h hb hK => by
 obtain ⟨y0, y1, n, rfl, hl, h0, h1⟩ := trod_struct2 Tryz.underlying75 h
 have hl2 : cs.length = 4 := by rw [hl]; kernel_rfl
 have hc1 : Tryz.prog.cellsOf 25 = 2 := by kernel_rfl
 match cs, hl2 with
 | [v0, v1, v2, v3], _ =>
  simp only [hc1, List.drop_zero, List.take_succ_cons, List.take_zero, List.drop_succ_cons] at h0 h1
  have hbk : Rows.uptoBulk (.agg [y0.1, y1.1] : DataW H) = Rows.uptoBulk y0.1 + Rows.uptoBulk y1.1 + 1 := by simp [Rows.uptoBulk, Rows.uptoBulkAll]
  rw [hbk] at hK
  obtain ⟨z, ⟨b, a, m, c, l, hcs, hN, hv, hm⟩, hMd⟩ := gives_int K n [v0, v1] y0 h0 hb.left (by omega)
  obtain ⟨d, ⟨b2, a2, m2, c2, l2, hcs2, hN2, hv2, hm2⟩, hMd2⟩ := gives_int K n [v2, v3] y1 h1 hb.right (by omega)
  cases hcs
  cases hcs2
  refine ⟨(z, d), ⟨b, a, m, c, b2, a2, m2, c2, rfl, l, l2, hN, hN2, hv, hv2, hm, hm2⟩, ?_⟩
  rw [hbk]
  show nl z.natAbs + nl d.natAbs + 7 ≤ _
  omega
end
end Go.Proofs.YtbhenelehhiakaaGreat
