/-
  The law QmatParts: region 17.
-/
import Derived.Test.YtbhenelehhiakaaPart38
set_option linter.unusedVariables false
set_option linter.unusedSimpArgs false
namespace Go.Proofs.Ytbhenelehhiakaa
open Go.RowKit

set_option maxRecDepth 1000000 in
set_option maxHeartbeats 40000000 in
theorem parts_r17 (w16 : World) (z3 s2 : Int) (nx2 ny2 mx my : Nat) (x y : Int × List (List Int)) (HS2 : Hid (stackE x y = s2)) (HZ3 : Hid (checksE [x, y] = z3)) (HLX : Hid (x.2.length = nx2)) (HLY : Hid (y.2.length = ny2)) (HMX : Hid (colsOf x.2 = mx)) (HMY : Hid (colsOf y.2 = my))
    (x0 x1 x2 x3 x4 x5 x6 x7 x8 x9 x10 x11 x17 x18 x19 x20 x21 x22 x23 x24 x25 x26 x27 x28 x29 x30 x31 x32 x33 x34 x35 x36 x37 x38 x39 x40 x41 x42 x43 x44 x45 x46 x47 x48 x49 x50 x51 x52 x53 x54 x55 x56 x57 x58 x59 x60 x61 x62 x63 x64 x65 x66 x67 x68 x69 x70 x71 x72 x73 x74 x75 x76 x77 x78 x79 x80 x81 x82 x83 x84 x85 x86 x87 x88 x89 x90 x91 x92 x93 x94 x95 x96 x97 x98 x99 x100 x101 x102 x103 x104 x105 x106 x107 x108 x109 x110 x111 x112 x113 x114 x115 x116 x117 x118 x119 x120 x121 x122 x123 x124 x125 x126 x127 x128 x129 x130 x131 x132 x133 x134 x135 x136 x137 x138 x139 x140 x141 x142 x143 x144 x145 x146 x147 x148 x149 x150 x151 x152 x153 x154 x155 x156 x157 x158 x159 x160 x161 x162 x163 x164 x165 x166 x167 x168 x169 x170 x171 x172 x173 x174 x175 x176 x177 x178 x179 x180 x181 x182 x183 x184 x185 x186 x187 x188 x189 x190 x191 x192 x193 x194 x195 x196 x197 x198 x199 x200 x201 x202 x203 x204 x205 x206 x207 x208 x209 x210 x211 x212 x213 x214 x215 x216 x217 x218 : Value)
    (Q : Exit → Act → World → Prop) (hQ : ∀ (v90 v91 v92 v93 v94 v95 v96 v97 v98 v99 v100 v101 v102 v103 : Value) (bC : Bool) (w' : World), Hid ((if bC then 2 else z3) = s2) → w' = w16 → Q .normal { tmps := #[x0, x1, x2, x3, x4, x5, x6, x7, x8, x9, x10, x11, .int .i64 z3, .int .i64 (nx2 : Int), .int .i64 (mx : Int), .int .i64 (ny2 : Int), .int .i64 (my : Int), x17, x18, x19, x20, x21, x22, x23, x24, x25, x26, x27, x28, x29, x30, x31, x32, x33, x34, x35, x36, x37, x38, x39, x40, x41, x42, x43, x44, x45, x46, x47, x48, x49, x50, x51, x52, x53, x54, x55, x56, x57, x58, x59, x60, x61, x62, x63, x64, x65, x66, x67, x68, x69, x70, x71, x72, x73, x74, x75, x76, x77, x78, x79, x80, x81, x82, x83, x84, x85, x86, x87, x88, x89, v90, v91, v92, v93, v94, v95, v96, v97, v98, v99, v100, v101, v102, v103, .bool bC, x105, x106, x107, x108, x109, x110, x111, x112, x113, x114, x115, x116, x117, x118, x119, x120, x121, x122, x123, x124, x125, x126, x127, x128, x129, x130, x131, x132, x133, x134, x135, x136, x137, x138, x139, x140, x141, x142, x143, x144, x145, x146, x147, x148, x149, x150, x151, x152, x153, x154, x155, x156, x157, x158, x159, x160, x161, x162, x163, x164, x165, x166, x167, x168, x169, x170, x171, x172, x173, x174, x175, x176, x177, x178, x179, x180, x181, x182, x183, x184, x185, x186, x187, x188, x189, x190, x191, x192, x193, x194, x195, x196, x197, x198, x199, x200, x201, x202, x203, x204, x205, x206, x207, x208, x209, x210, x211, x212, x213, x214, x215, x216, x217, x218], defers := [] } w') :
    Code.wp Try.prog (partsReg 17) Q { tmps := #[x0, x1, x2, x3, x4, x5, x6, x7, x8, x9, x10, x11, .int .i64 z3, .int .i64 (nx2 : Int), .int .i64 (mx : Int), .int .i64 (ny2 : Int), .int .i64 (my : Int), x17, x18, x19, x20, x21, x22, x23, x24, x25, x26, x27, x28, x29, x30, x31, x32, x33, x34, x35, x36, x37, x38, x39, x40, x41, x42, x43, x44, x45, x46, x47, x48, x49, x50, x51, x52, x53, x54, x55, x56, x57, x58, x59, x60, x61, x62, x63, x64, x65, x66, x67, x68, x69, x70, x71, x72, x73, x74, x75, x76, x77, x78, x79, x80, x81, x82, x83, x84, x85, x86, x87, x88, x89, x90, x91, x92, x93, x94, x95, x96, x97, x98, x99, x100, x101, x102, x103, x104, x105, x106, x107, x108, x109, x110, x111, x112, x113, x114, x115, x116, x117, x118, x119, x120, x121, x122, x123, x124, x125, x126, x127, x128, x129, x130, x131, x132, x133, x134, x135, x136, x137, x138, x139, x140, x141, x142, x143, x144, x145, x146, x147, x148, x149, x150, x151, x152, x153, x154, x155, x156, x157, x158, x159, x160, x161, x162, x163, x164, x165, x166, x167, x168, x169, x170, x171, x172, x173, x174, x175, x176, x177, x178, x179, x180, x181, x182, x183, x184, x185, x186, x187, x188, x189, x190, x191, x192, x193, x194, x195, x196, x197, x198, x199, x200, x201, x202, x203, x204, x205, x206, x207, x208, x209, x210, x211, x212, x213, x214, x215, x216, x217, x218], defers := [] } w16 := by
  conv => arg 2; whnf
  have hs2 := HS2.out
  unfold stackE at hs2
  rw [HZ3.out, HLX.out, HLY.out, HMX.out, HMY.out] at hs2
  clear HS2 HZ3 HLX HLY HMX HMY
  by_cases c0 : z3 = 0
  · by_cases c1 : 0 < nx2
    · by_cases c2 : 0 < ny2
      · by_cases c3 : mx = my
        · have HV : Hid (z3 = s2) := Lib.hid (by rw [if_neg (by omega), if_neg (by omega)] at hs2; omega)
          subst c0
          subst c3
          clear hs2
          go_wp2_with fail
          exact hQ _ _ _ _ _ _ _ _ _ _ _ _ _ _ _ _ (Lib.hid (by first | exact HV.out | (rw [← HV.out]; rfl))) rfl
        · have HV : Hid (2 = s2) := Lib.hid (by rw [if_neg (by omega), if_pos (by omega)] at hs2; exact hs2)
          have t3 : ((mx : Int) != (my : Int)) = true := by simp; omega
          subst c0
          clear hs2 c3
          go_wp2_with fail
          exact hQ _ _ _ _ _ _ _ _ _ _ _ _ _ _ _ _ (Lib.hid (by first | exact HV.out | (rw [← HV.out]; rfl))) rfl
      · have HV : Hid (z3 = s2) := Lib.hid (by rw [if_neg (by omega), if_neg (by omega)] at hs2; omega)
        have t2 : decide (0 < ny2) = false := decide_eq_false c2
        subst c0
        clear hs2
        go_wp2_with fail
        exact hQ _ _ _ _ _ _ _ _ _ _ _ _ _ _ _ _ (Lib.hid (by first | exact HV.out | (rw [← HV.out]; rfl))) rfl
    · have HV : Hid (z3 = s2) := Lib.hid (by rw [if_neg (by omega), if_neg (by omega)] at hs2; omega)
      have t1 : decide (0 < nx2) = false := decide_eq_false c1
      subst c0
      clear hs2
      go_wp2_with fail
      exact hQ _ _ _ _ _ _ _ _ _ _ _ _ _ _ _ _ (Lib.hid (by first | exact HV.out | (rw [← HV.out]; rfl))) rfl
  · have HV : Hid (z3 = s2) := Lib.hid (by rw [if_pos c0] at hs2; exact hs2)
    have t0 : (z3 == 0) = false := by simpa using c0
    clear hs2 c0
    go_wp2_with fail
    exact hQ _ _ _ _ _ _ _ _ _ _ _ _ _ _ _ _ (Lib.hid (by first | exact HV.out | (rw [← HV.out]; rfl))) rfl
end Go.Proofs.Ytbhenelehhiakaa
