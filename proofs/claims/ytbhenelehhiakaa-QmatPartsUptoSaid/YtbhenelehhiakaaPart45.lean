/-
  The law QmatParts: region 23.
-/
import Derived.Test.YtbhenelehhiakaaPart38
set_option linter.unusedVariables false
set_option linter.unusedSimpArgs false
namespace Go.Proofs.Ytbhenelehhiakaa
open Go.RowKit

set_option maxRecDepth 1000000 in
set_option maxHeartbeats 40000000 in
theorem parts_r23 (wc : World) (x : Int × List (List Int)) (z4 : Int) (nx2 mx : Nat) (r r2 k k2 : Int) (s4 : Int) (HS4 : Hid (cutE x r r2 k k2 = s4)) (bpl : Nat) (HPL : Hid (Blk wc bpl 42 #[.int .i64 r, .int .i64 r2, .int .i64 k, .int .i64 k2])) (HZ4 : Hid (checkE x.1 x.2 = z4)) (HLX : Hid (x.2.length = nx2)) (HMX : Hid (colsOf x.2 = mx))
    (x0 x1 x2 x4 x5 x6 x7 x8 x9 x10 x11 x15 x16 x17 x18 x19 x20 x21 x22 x23 x24 x25 x26 x27 x28 x29 x30 x31 x32 x33 x34 x35 x36 x37 x38 x39 x40 x41 x42 x43 x44 x45 x46 x47 x48 x49 x50 x51 x52 x53 x54 x55 x56 x57 x58 x59 x60 x61 x62 x63 x64 x65 x66 x67 x68 x69 x70 x71 x72 x73 x74 x75 x76 x77 x78 x79 x80 x81 x82 x83 x84 x85 x86 x87 x88 x89 x90 x91 x92 x93 x94 x95 x96 x97 x98 x99 x100 x101 x102 x103 x104 x105 x106 x107 x108 x109 x110 x111 x112 x113 x114 x115 x116 x117 x118 x119 x120 x121 x122 x123 x124 x125 x126 x127 x128 x129 x130 x131 x132 x133 x134 x135 x136 x137 x138 x139 x140 x141 x142 x143 x144 x145 x146 x147 x148 x149 x150 x151 x152 x153 x154 x155 x156 x157 x158 x159 x160 x161 x162 x163 x164 x165 x166 x167 x168 x169 x170 x171 x172 x173 x174 x175 x176 x177 x178 x179 x180 x181 x182 x183 x184 x185 x186 x187 x188 x189 x190 x191 x192 x193 x194 x195 x196 x197 x198 x199 x200 x201 x202 x203 x204 x205 x206 x207 x208 x209 x210 x211 x212 x213 x214 x215 x216 x217 x218 : Value)
    (Q : Exit → Act → World → Prop) (hQ : ∀ (v149 v150 v151 v152 v153 v154 v155 v156 v157 v158 v159 v160 v161 v162 v163 v164 v165 v166 v167 v168 v169 v170 v171 v172 v173 v174 v175 v176 v177 v178 v179 v180 v181 v182 v183 v184 v185 : Value) (bC : Bool) (w' : World), Hid ((if bC then 1 else z4) = s4) → w' = wc → Q .normal { tmps := #[x0, x1, x2, .pointer (some ⟨bpl, 0, none⟩), x4, x5, x6, x7, x8, x9, x10, x11, .int .i64 z4, .int .i64 (nx2 : Int), .int .i64 (mx : Int), x15, x16, x17, x18, x19, x20, x21, x22, x23, x24, x25, x26, x27, x28, x29, x30, x31, x32, x33, x34, x35, x36, x37, x38, x39, x40, x41, x42, x43, x44, x45, x46, x47, x48, x49, x50, x51, x52, x53, x54, x55, x56, x57, x58, x59, x60, x61, x62, x63, x64, x65, x66, x67, x68, x69, x70, x71, x72, x73, x74, x75, x76, x77, x78, x79, x80, x81, x82, x83, x84, x85, x86, x87, x88, x89, x90, x91, x92, x93, x94, x95, x96, x97, x98, x99, x100, x101, x102, x103, x104, x105, x106, x107, x108, x109, x110, x111, x112, x113, x114, x115, x116, x117, x118, x119, x120, x121, x122, x123, x124, x125, x126, x127, x128, x129, x130, x131, x132, x133, x134, x135, x136, x137, x138, x139, x140, x141, x142, x143, x144, x145, x146, x147, x148, v149, v150, v151, v152, v153, v154, v155, v156, v157, v158, v159, v160, v161, v162, v163, v164, v165, v166, v167, v168, v169, v170, v171, v172, v173, v174, v175, v176, v177, v178, v179, v180, v181, v182, v183, v184, v185, .bool bC, x187, x188, x189, x190, x191, x192, x193, x194, x195, x196, x197, x198, x199, x200, x201, x202, x203, x204, x205, x206, x207, x208, x209, x210, x211, x212, x213, x214, x215, x216, x217, x218], defers := [] } w') :
    Code.wp Try.prog (partsReg 23) Q { tmps := #[x0, x1, x2, .pointer (some ⟨bpl, 0, none⟩), x4, x5, x6, x7, x8, x9, x10, x11, .int .i64 z4, .int .i64 (nx2 : Int), .int .i64 (mx : Int), x15, x16, x17, x18, x19, x20, x21, x22, x23, x24, x25, x26, x27, x28, x29, x30, x31, x32, x33, x34, x35, x36, x37, x38, x39, x40, x41, x42, x43, x44, x45, x46, x47, x48, x49, x50, x51, x52, x53, x54, x55, x56, x57, x58, x59, x60, x61, x62, x63, x64, x65, x66, x67, x68, x69, x70, x71, x72, x73, x74, x75, x76, x77, x78, x79, x80, x81, x82, x83, x84, x85, x86, x87, x88, x89, x90, x91, x92, x93, x94, x95, x96, x97, x98, x99, x100, x101, x102, x103, x104, x105, x106, x107, x108, x109, x110, x111, x112, x113, x114, x115, x116, x117, x118, x119, x120, x121, x122, x123, x124, x125, x126, x127, x128, x129, x130, x131, x132, x133, x134, x135, x136, x137, x138, x139, x140, x141, x142, x143, x144, x145, x146, x147, x148, x149, x150, x151, x152, x153, x154, x155, x156, x157, x158, x159, x160, x161, x162, x163, x164, x165, x166, x167, x168, x169, x170, x171, x172, x173, x174, x175, x176, x177, x178, x179, x180, x181, x182, x183, x184, x185, x186, x187, x188, x189, x190, x191, x192, x193, x194, x195, x196, x197, x198, x199, x200, x201, x202, x203, x204, x205, x206, x207, x208, x209, x210, x211, x212, x213, x214, x215, x216, x217, x218], defers := [] } wc := by
  conv => arg 2; whnf
  have pl := HPL.out
  skip
  replace pl_0 := pl.cell (i := 0) rfl
  replace pl_1 := pl.cell (i := 1) rfl
  replace pl_2 := pl.cell (i := 2) rfl
  replace pl_3 := pl.cell (i := 3) rfl
  have hs4 := HS4.out
  unfold cutE at hs4
  rw [HZ4.out, HLX.out, HMX.out] at hs4
  by_cases c0 : z4 = 0
  · have hs5 : (if r < 0 ∨ r2 < r ∨ (nx2 : Int) < r2 ∨ k < 0 ∨ k2 < k ∨ (mx : Int) < k2 then 1 else 0) = s4 := by rw [if_neg (by omega)] at hs4; exact hs4
    subst c0
    clear hs4
    by_cases t0 : r < 0
    · have HV : Hid (1 = s4) := Lib.hid (by rw [if_pos (by omega)] at hs5; exact hs5)
      have d0 : decide (r < 0) = true := decide_eq_true t0
      clear hs5 t0
      go_wp2_with fail
      exact hQ _ _ _ _ _ _ _ _ _ _ _ _ _ _ _ _ _ _ _ _ _ _ _ _ _ _ _ _ _ _ _ _ _ _ _ _ _ _ _ (Lib.hid (by first | exact HV.out | (rw [← HV.out]; rfl))) rfl
    by_cases t1 : r2 < r
    · have HV : Hid (1 = s4) := Lib.hid (by rw [if_pos (by omega)] at hs5; exact hs5)
      have d0 : decide (r < 0) = false := decide_eq_false t0
      have d1 : decide (r2 < r) = true := decide_eq_true t1
      clear hs5 t0 t1
      go_wp2_with fail
      exact hQ _ _ _ _ _ _ _ _ _ _ _ _ _ _ _ _ _ _ _ _ _ _ _ _ _ _ _ _ _ _ _ _ _ _ _ _ _ _ _ (Lib.hid (by first | exact HV.out | (rw [← HV.out]; rfl))) rfl
    by_cases t2 : (nx2 : Int) < r2
    · have HV : Hid (1 = s4) := Lib.hid (by rw [if_pos (by omega)] at hs5; exact hs5)
      have d0 : decide (r < 0) = false := decide_eq_false t0
      have d1 : decide (r2 < r) = false := decide_eq_false t1
      have d2 : decide ((nx2 : Int) < r2) = true := decide_eq_true t2
      clear hs5 t0 t1 t2
      go_wp2_with fail
      exact hQ _ _ _ _ _ _ _ _ _ _ _ _ _ _ _ _ _ _ _ _ _ _ _ _ _ _ _ _ _ _ _ _ _ _ _ _ _ _ _ (Lib.hid (by first | exact HV.out | (rw [← HV.out]; rfl))) rfl
    by_cases t3 : k < 0
    · have HV : Hid (1 = s4) := Lib.hid (by rw [if_pos (by omega)] at hs5; exact hs5)
      have d0 : decide (r < 0) = false := decide_eq_false t0
      have d1 : decide (r2 < r) = false := decide_eq_false t1
      have d2 : decide ((nx2 : Int) < r2) = false := decide_eq_false t2
      have d3 : decide (k < 0) = true := decide_eq_true t3
      clear hs5 t0 t1 t2 t3
      go_wp2_with fail
      exact hQ _ _ _ _ _ _ _ _ _ _ _ _ _ _ _ _ _ _ _ _ _ _ _ _ _ _ _ _ _ _ _ _ _ _ _ _ _ _ _ (Lib.hid (by first | exact HV.out | (rw [← HV.out]; rfl))) rfl
    by_cases t4 : k2 < k
    · have HV : Hid (1 = s4) := Lib.hid (by rw [if_pos (by omega)] at hs5; exact hs5)
      have d0 : decide (r < 0) = false := decide_eq_false t0
      have d1 : decide (r2 < r) = false := decide_eq_false t1
      have d2 : decide ((nx2 : Int) < r2) = false := decide_eq_false t2
      have d3 : decide (k < 0) = false := decide_eq_false t3
      have d4 : decide (k2 < k) = true := decide_eq_true t4
      clear hs5 t0 t1 t2 t3 t4
      go_wp2_with fail
      exact hQ _ _ _ _ _ _ _ _ _ _ _ _ _ _ _ _ _ _ _ _ _ _ _ _ _ _ _ _ _ _ _ _ _ _ _ _ _ _ _ (Lib.hid (by first | exact HV.out | (rw [← HV.out]; rfl))) rfl
    by_cases t5 : (mx : Int) < k2
    · have HV : Hid (1 = s4) := Lib.hid (by rw [if_pos (by omega)] at hs5; exact hs5)
      have d0 : decide (r < 0) = false := decide_eq_false t0
      have d1 : decide (r2 < r) = false := decide_eq_false t1
      have d2 : decide ((nx2 : Int) < r2) = false := decide_eq_false t2
      have d3 : decide (k < 0) = false := decide_eq_false t3
      have d4 : decide (k2 < k) = false := decide_eq_false t4
      have d5 : decide ((mx : Int) < k2) = true := decide_eq_true t5
      clear hs5 t0 t1 t2 t3 t4 t5
      go_wp2_with fail
      exact hQ _ _ _ _ _ _ _ _ _ _ _ _ _ _ _ _ _ _ _ _ _ _ _ _ _ _ _ _ _ _ _ _ _ _ _ _ _ _ _ (Lib.hid (by first | exact HV.out | (rw [← HV.out]; rfl))) rfl
    have HV : Hid (0 = s4) := Lib.hid (by rw [if_neg (by omega)] at hs5; exact hs5)
    have d0 : decide (r < 0) = false := decide_eq_false t0
    have d1 : decide (r2 < r) = false := decide_eq_false t1
    have d2 : decide ((nx2 : Int) < r2) = false := decide_eq_false t2
    have d3 : decide (k < 0) = false := decide_eq_false t3
    have d4 : decide (k2 < k) = false := decide_eq_false t4
    have d5 : decide ((mx : Int) < k2) = false := decide_eq_false t5
    clear hs5 t0 t1 t2 t3 t4 t5
    go_wp2_with fail
    exact hQ _ _ _ _ _ _ _ _ _ _ _ _ _ _ _ _ _ _ _ _ _ _ _ _ _ _ _ _ _ _ _ _ _ _ _ _ _ _ _ (Lib.hid (by first | exact HV.out | (rw [← HV.out]; rfl))) rfl
  · have HV : Hid (z4 = s4) := Lib.hid (by rw [if_pos c0] at hs4; exact hs4)
    have d0 : (z4 == 0) = false := by simpa using c0
    clear hs4 c0
    go_wp2_with fail
    exact hQ _ _ _ _ _ _ _ _ _ _ _ _ _ _ _ _ _ _ _ _ _ _ _ _ _ _ _ _ _ _ _ _ _ _ _ _ _ _ _ (Lib.hid (by first | exact HV.out | (rw [← HV.out]; rfl))) rfl
end Go.Proofs.Ytbhenelehhiakaa
